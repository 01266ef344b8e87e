/- Lemmas: an abstract machine over the loaded program, proved sound against the model once; what the program's functions compute. -/
import Derived.Test.YteiahfpnjjdkoaaGreatK1
import Derived.Carry
set_option linter.all false
namespace Go.AM
def Rdq {α : Type} (L K:List Nat) (f:St → Option (α × St)) (qs:α → List Q):Prop :=
 ∀ s a s1,f s=some (a,s1) → ∃ ks,(∀ k ∈ ks,k ∈ K) ∧ s1={ s with fr:=drps ks s.fr } ∧ ∀ t ac,(∀ q ∈ qs a,Cov ac q) → Agr L ac s t → f t=some (a,{ t with fr:=drps ks t.fr })
theorem Rd.q {α : Type} {L K:List Nat} {f:St → Option (α × St)} (h:Rd L K f):Rdq L K f (fun _=>[]):=by
 intro s a s1 e
 obtain ⟨ks,h1,h2,h3⟩:=h s a s1 e
 exact ⟨ks,h1,h2,fun t ac _ hag=>h3 t hag.agv⟩
def R.qs:R → List Q
 | .q x=>[x]
 | .v _=>[]
theorem rdq_rx (x:X):Rdq (slotX x) (tkX x) (rx x) R.qs:=by
 intro s r s1 h
 cases x with
 | c d'=>simp only [rx] at h; cases h; exact ⟨[],by simp,rfl,fun t _ _ _=>rfl⟩
 | t n =>
  simp only [rx] at h
  split at h
  ·rename_i d0 hl
   split at h
   ·rename_i d1 hc
    cases h
    refine ⟨[],by simp,rfl,fun t ac hq hag=>?_⟩
    rcases hag n (by simp [slotX]) with h | h | ⟨x,h,_⟩
    ·rw [hl] at h; cases h; simp [D.cp] at hc
    ·simp only [rx,h,hl,hc,drps]
    ·rw [hl] at h; cases h
   ·cases h
  ·rename_i q hl
   cases h
   refine ⟨[],by simp,rfl,fun t ac hq hag=>?_⟩
   rcases hag n (by simp [slotX]) with h | h | ⟨x,h,hx⟩
   ·rw [hl] at h; cases h
   ·simp only [rx,h,hl,drps]
   ·rw [hl] at h; cases h; exact absurd (hq _ (by simp [R.qs])) hx
  ·cases h
 | k n =>
  simp only [rx] at h
  split at h
  ·cases h
  ·rename_i r hne hl
   cases h
   refine ⟨[n],by simp [tkX],rfl,fun t ac hq hag=>?_⟩
   rcases hag n (by simp [slotX]) with h | h | ⟨x,h,hx⟩
   ·rw [hl] at h; exact absurd (Option.some.inj h) hne
   ·simp only [rx,h,hl,drps]
   ·rw [h] at hl; cases hl; exact absurd (hq _ (by simp [R.qs])) hx
  ·cases h
theorem Agr.drops {L ac s t ks} (h:Agr L ac s t):Agr L ac { s with fr:=drps ks s.fr } { t with fr:=drps ks t.fr }:=by
 intro k hk
 simp only [look_drps]
 by_cases e:k ∈ ks
 ·simp [e]
 ·simpa [e] using h k hk
theorem Rdq.pair {α β : Type} {L K L' K' : List Nat} {f : St → Option (α × St)} {g : St → Option (β × St)} {qf : α → List Q} {qg : β → List Q} (hf : Rdq L K f qf) (hg : Rdq L' K' g qg) :
    Rdq (L ++ L') (K ++ K') (fun s=>match f s with | some (a,s1)=>(match g s1 with | some (b,s2)=>some ((a,b),s2) | none=>none) | none=>none) (fun p=>qf p.1 ++ qg p.2):=by
 intro s p s2 h
 dsimp only at h
 split at h
 ·rename_i a s1 h1
  split at h
  ·rename_i b s3 h2
   cases h
   obtain ⟨ks,hk,rfl,ht⟩:=hf s a s1 h1
   obtain ⟨ks',hk',rfl,ht'⟩:=hg _ b _ h2
   refine ⟨ks ++ ks',?_,by simp [drps_append],?_⟩
   ·intro k hk2
    rcases List.mem_append.1 hk2 with h | h
    ·exact List.mem_append_left _ (hk k h)
    ·exact List.mem_append_right _ (hk' k h)
   ·intro t ac hq hag
    simp only [List.mem_append] at hq
    have h1:=ht t ac (fun q hx=>hq q (.inl hx)) (hag.sub (fun k hk=>List.mem_append_left _ hk))
    simp only [h1]
    rw [ht' _ ac (fun q hx=>hq q (.inr hx)) ((hag.sub (fun k hk=>List.mem_append_right _ hk)).drops)]
    simp [drps_append]
  ·cases h
 ·cases h
theorem Rdq.mono {α : Type} {L K L' K':List Nat} {f:St → Option (α × St)} {qs} (hf:Rdq L K f qs) (hL:∀ k ∈ L,k ∈ L') (hK:∀ k ∈ K,k ∈ K'):Rdq L' K' f qs:=by
 intro s a s1 h
 obtain ⟨ks,h1,h2,h3⟩:=hf s a s1 h
 exact ⟨ks,fun k hk=>hK k (h1 k hk),h2,fun t ac hq ht=>h3 t ac hq (ht.sub hL)⟩
theorem Rdq.nil {α : Type} (a:α) (qs:α → List Q):Rdq [] [] (fun s=>some (a,s)) qs:=fun s b s1 h=>by
 cases h; exact ⟨[],by simp,rfl,fun t _ _ _=>rfl⟩
def LocG (qs:List Q) (G:St → Option (R × St × Ac)):Prop :=
 ∀ s r s1 ac,G s=some (r,s1,ac) → (∀ q ∈ qs,Cov ac q) ∧ (∀ x,r=.q x → Cov ac x) ∧ Pre ac s ∧
  ∃ u:Up,(∀ k y,u.fr k y=y.map (fgt ac.fg)) ∧ ObOK ac u ∧ Ap u s s1 ∧ Sh ac s s1 ∧ ∀ t,View ac s t → ∃ t1,G t=some (r,t1,ac) ∧ Ap u t t1 ∧ Sh ac t t1
theorem View.fr {ac s t f g}:View ac { s with fr:=f } { t with fr:=g } ↔ View ac s t:=by cases ac <;> rfl
theorem Sh.fr {ac s t f}:Sh ac { s with fr:=f } t ↔ Sh ac s t:=Iff.rfl
theorem Pre.fr {ac s f}:Pre ac { s with fr:=f } ↔ Pre ac s:=by cases ac <;> rfl
def Up.after (u:Up) (ks:List Nat):Up:={ u with fr:=fun k y=>u.fr k (if k ∈ ks then none else y) }
theorem Ap.after {u:Up} {s t:St} {ks} (h:Ap u { s with fr:=drps ks s.fr } t):Ap (u.after ks) s t :=
 ⟨fun k=>by rw [h.fr]; simp [Up.after,look_drps],h.ob,h.sg,h.lo⟩
theorem loc_gen {α : Type} {L K : List Nat} {f : St → Option (α × St)} {qs : α → List Q} (hf : Rdq L K f qs) {G : α → St → Option (R × St × Ac)} (hG : ∀ a, LocG (qs a) (G a))
    {F:St → Option (R × St × Ac)} (h:∀ s,F s=match f s with | some (a,s1)=>G a s1 | none=>none):Loc L K F:=by
 intro s r s2 ac hs
 rw [h] at hs
 split at hs
 ·rename_i a s1 h1
  obtain ⟨ks,hk,rfl,ht⟩:=hf s a _ h1
  obtain ⟨hc,hr,hp,u,hu,ho,ha,hsh,hv⟩:=hG a _ r s2 ac hs
  refine ⟨hr,Pre.fr.1 hp,u.after ks,?_,⟨ho.ob,ho.sg,ho.wl,ho.wk,ho.wg⟩,ha.after,Sh.fr.1 hsh,fun t hag hvw=>?_⟩
  ·intro k
   by_cases e:k ∈ ks
   ·refine .inr ⟨hk k e,none,fun y=>by simp [Up.after,e,hu],fun _=>rfl⟩
   ·exact .inl (fun y=>by simp [Up.after,e,hu])
  ·obtain ⟨t1,h3,h4,h5⟩:=hv { t with fr:=drps ks t.fr } (View.fr.2 hvw)
   exact ⟨t1,by rw [h,ht t ac hc hag]; exact h3,h4.after,Sh.fr.1 h5⟩
 ·cases hs
theorem cov_ptr (k off o n:Nat):Cov (.rl k o n) (.ptr k off):=by
 intro ac' h
 cases ac' <;> simp [Ac.ok2,Ac.ok,Ac.fg,Q.bor,Q.ofk,Q.gl,Q.glx] at h ⊢
 omega
theorem cov_ptrw (k off o n:Nat):Cov (.wl k o n) (.ptr k off):=by
 intro ac' h
 cases ac' <;> simp [Ac.ok2,Ac.ok,Ac.fg,Q.bor,Q.ofk,Q.gl,Q.glx] at h ⊢
 omega
theorem cov_ptrk (k off:Nat):Cov (.wk k) (.ptr k off):=by
 intro ac' h
 cases ac' <;> simp [Ac.ok2,Ac.ok,Ac.fg,Q.bor,Q.ofk,Q.gl,Q.glx] at h ⊢
 omega
theorem cov_ptrb (k off:Nat):Cov (.rb k) (.ptr k off):=by
 intro ac' h
 cases ac' <;> simp [Ac.ok2,Ac.ok,Ac.fg,Q.bor,Q.ofk,Q.gl,Q.glx] at h ⊢
 omega
def Q.inn (pl:Pl):Q → Prop
 | .hd p=>p=pl
 | .el p _ _=>p=pl
 | .hdr k=>pl=.ob k 0
 | .ptr .. => False
def Pl.rb:Pl → Ac
 | .ob k _=>.rb k
 | .gb r _=>.rgb r
theorem cov_b {q:Q} {pl:Pl} (h:q.inn pl):Cov pl.rb q:=by
 intro ac' hk
 cases q <;> simp only [Q.inn] at h <;> (try exact h.elim) <;> subst h
 ·cases ac' <;> simp [Ac.ok2,Ac.ok,Ac.fg,Q.bor,Q.ofk,Q.gl,Q.glx,Pl.rb] at hk ⊢ <;> omega
 ·rename_i pl
  cases pl <;> cases ac' <;> simp [Ac.ok2,Ac.ok,Ac.fg,Q.bor,Q.ofk,Q.gl,Q.glx,Pl.rb] at hk ⊢ <;> omega
 ·rename_i pl _ _
  cases pl <;> cases ac' <;> simp [Ac.ok2,Ac.ok,Ac.fg,Q.bor,Q.ofk,Q.gl,Q.glx,Pl.rb] at hk ⊢ <;> omega
theorem cov_re {q:Q} {pl:Pl} (h:q.inn pl):Cov pl.re q:=by
 intro ac' hk
 cases q <;> simp only [Q.inn] at h <;> (try exact h.elim) <;> subst h
 ·cases ac' <;> simp [Ac.ok2,Ac.ok,Ac.fg,Q.bor,Q.ofk,Q.gl,Q.glx,Pl.re] at hk ⊢ <;> omega
 ·rename_i pl
  cases pl <;> cases ac' <;> simp [Ac.ok2,Ac.ok,Ac.fg,Q.bor,Q.ofk,Q.gl,Q.glx,Pl.re] at hk ⊢ <;> omega
 ·rename_i pl _ _
  cases pl <;> cases ac' <;> simp [Ac.ok2,Ac.ok,Ac.fg,Q.bor,Q.ofk,Q.gl,Q.glx,Pl.re] at hk ⊢ <;> omega
theorem cov_we {q:Q} {pl:Pl} (h:q.inn pl):Cov pl.we q:=by
 intro ac' hk
 cases q <;> simp only [Q.inn] at h <;> (try exact h.elim) <;> subst h
 ·cases ac' <;> simp [Ac.ok2,Ac.ok,Ac.fg,Q.bor,Q.ofk,Q.gl,Q.glx,Pl.we] at hk ⊢ <;> omega
 ·rename_i pl
  cases pl <;> cases ac' <;> simp [Ac.ok2,Ac.ok,Ac.fg,Q.bor,Q.ofk,Q.gl,Q.glx,Pl.we] at hk ⊢ <;> omega
 ·rename_i pl _ _
  cases pl <;> cases ac' <;> simp [Ac.ok2,Ac.ok,Ac.fg,Q.bor,Q.ofk,Q.gl,Q.glx,Pl.we] at hk ⊢ <;> omega
theorem cov_ac (q:Q):Cov q.ac q:=by
 cases q with
 | ptr k off=>exact cov_ptr _ _ _ _
 | hdr k=>exact cov_b (q:=.hdr k) (pl:=.ob k 0) rfl
 | hd pl=>cases pl with
  | ob k o=>exact cov_b (q:=.hd _) (pl:=.ob k o) rfl
  | gb k o=>exact cov_b (q:=.hd _) (pl:=.gb k o) rfl
 | el pl i o=>cases pl with
  | ob k o'=>exact cov_b (q:=.el _ i o) (pl:=.ob k o') rfl
  | gb k o'=>exact cov_b (q:=.el _ i o) (pl:=.gb k o') rfl
def up0:Up:=⟨fun _ y=>y,fun _ y=>y,fun x=>x,fun x=>x⟩
theorem up0_ap (s:St):Ap up0 s s:=⟨fun _=>rfl,fun _=>rfl,rfl,rfl⟩
theorem fgt_no (y:Option R):y=y.map (fgt fun _=>false):=by
 cases y with
 | none=>rfl
 | some r=>cases r <;> simp [fgt]
theorem locg_read {qs : List Q} {G : St → Option (R × St × Ac)}
    (h:∀ s r s1 ac,G s=some (r,s1,ac) → s1=s ∧ ac.wob=none ∧ ac.wsg=false ∧ ac.fg=(fun _=>false) ∧ (∀ q ∈ qs,Cov ac q) ∧ (∀ x,r=.q x → Cov ac x) ∧ ∀ t,View ac s t → G t=some (r,t,ac)):LocG qs G:=by
 intro s r s1 ac hs
 obtain ⟨rfl,h1,h2,h3,h4,h5,h6⟩:=h s r s1 ac hs
 refine ⟨h4,h5,?_,up0,fun k y=>by rw [h3]; exact fgt_no y,obok_id (fun _ _=>rfl) (fun _=>rfl) (fun _=>rfl) h1 h2,up0_ap _,sh_no h1 h2,fun t hv=>⟨t,h6 t hv,up0_ap _,sh_no h1 h2⟩⟩
 cases ac <;> simp [Ac.wob,Ac.wsg] at h1 h2 <;> trivial
theorem qac_ro (q:Q):q.ac.wob=none ∧ q.ac.wsg=false ∧ q.ac.fg=fun _=>false:=by
 cases q with
 | ptr k off=>exact ⟨rfl,rfl,rfl⟩
 | hdr k=>exact ⟨rfl,rfl,rfl⟩
 | hd pl=>cases pl <;> exact ⟨rfl,rfl,rfl⟩
 | el pl i o=>cases pl <;> exact ⟨rfl,rfl,rfl⟩
theorem locg_q (r:R) (r':R) (hq:r=r' ∨ ∃ a b:Q,r=.q a ∧ r'=.q b ∧ a.ac=b.ac):LocG r.qs (fun s=>some (r',s,r'.ac)):=by
 refine locg_read (fun s x s1 ac hs=>?_)
 cases hs
 rcases hq with rfl | ⟨a,b,rfl,rfl,e⟩
 ·cases r with
  | v d=>exact ⟨rfl,rfl,rfl,rfl,by simp [R.qs],fun x e=>(nomatch e),fun t _=>rfl⟩
  | q x =>
   obtain ⟨h1,h2,h3⟩:=qac_ro x
   exact ⟨rfl,h1,h2,h3,by simp [R.qs]; exact cov_ac x,fun y e=>by cases e; exact cov_ac _,fun t _=>rfl⟩
 ·obtain ⟨h1,h2,h3⟩:=qac_ro b
  exact ⟨rfl,h1,h2,h3,(by simp only [R.qs,List.mem_singleton]; rintro q rfl; show Cov b.ac q; rw [← e]; exact cov_ac q),fun y e=>by cases e; exact cov_ac _,fun t _=>rfl⟩
theorem loc_mv (OO:Or) (m:TypeId → String → Option FuncId) (x:X) (dst:Option Nat):Loc (slotX x) (tkX x) (fun s=>evO OO m (.mv x) s dst) :=
 loc_gen (rdq_rx x) (G:=fun r s=>some (r,s,r.ac)) (fun r=>locg_q r r (.inl rfl)) (fun s=>by simp only [evO]; cases rx x s <;> rfl)
theorem loc_nc (OO:Or) (m:TypeId → String → Option FuncId) (x:X) (dst:Option Nat):Loc (slotX x) (tkX x) (fun s=>evO OO m (.nc x) s dst) :=
 loc_gen (rdq_rx x) (G := fun r s => match r with
     | .v (.p g o)=>some (.v (.p g o),s,.no)
     | .v (.q cs o)=>some (.v (.q cs o),s,.no)
     | .v (.ic t d)=>some (.v (.ic t d),s,.no)
     | .v (.bm nm d)=>if bmOK m nm d then some (.v (.bm nm d),s,.no) else none
     | .q (.ptr k o)=>some (.q (.ptr k o),s,(Q.ptr k o).ac)
     | .q (.el p i o)=>some (.q (.el p i o),s,(Q.el p i o).ac)
     | _=>none)
  (fun r=>by
   cases r with
   | v d =>
    by_cases hbm:∃ nm e,d=.bm nm e
    ·obtain ⟨nm,e,rfl⟩:=hbm
     by_cases hb:bmOK m nm e=true
     ·have:=locg_q (.v (.bm nm e)) (.v (.bm nm e)) (.inl rfl)
      simp only [if_pos hb]
      exact this
     ·intro s r s1 ac h
      simp only [if_neg hb] at h
      cases h
    ·cases d <;> first | exact locg_q _ _ (.inl rfl) | exact absurd ⟨_,_,rfl⟩ hbm | exact fun s r s1 ac h=>nomatch h
   | q x=>cases x <;> first | exact locg_q _ _ (.inl rfl) | exact fun s r s1 ac h=>nomatch h)
  (fun s=>by
   simp only [evO]
   cases rx x s with
   | none=>rfl
   | some p =>
    obtain ⟨r,s1⟩:=p
    cases r with
    | v d=>cases d <;> rfl
    | q x=>cases x <;> rfl)
theorem loc_fa (OO:Or) (m:TypeId → String → Option FuncId) (off:Nat) (x:X) (dst:Option Nat):Loc (slotX x) (tkX x) (fun s=>evO OO m (.fa off x) s dst) :=
 loc_gen (rdq_rx x) (G := fun r s => match r with
     | .v (.p g o)=>some (.v (.p g (o + off)),s,.no)
     | .v (.q cs o)=>some (.v (.q cs (o + off)),s,.no)
     | .q (.ptr k o)=>some (.q (.ptr k (o + off)),s,(Q.ptr k (o + off)).ac)
     | .q (.el p i o)=>some (.q (.el p i (o + off)),s,(Q.el p i (o + off)).ac)
     | _=>none)
  (fun r=>by
   cases r with
   | v d=>cases d <;> first | exact locg_read (fun s r s1 ac h=>by cases h; exact ⟨rfl,rfl,rfl,rfl,by simp [R.qs],fun x e=>(nomatch e),fun _ _=>rfl⟩) | exact fun s r s1 ac h=>nomatch h
   | q x=>cases x <;> first | exact locg_q _ (.q _) (.inr ⟨_,_,rfl,rfl,rfl⟩) | (rename_i p _ _; exact locg_q _ (.q _) (.inr ⟨_,_,rfl,rfl,by cases p <;> rfl⟩)) | exact fun s r s1 ac h=>nomatch h)
  (fun s=>by
   simp only [evO]
   cases rx x s with
   | none=>rfl
   | some p =>
    obtain ⟨r,s1⟩:=p
    cases r with
    | v d=>cases d <;> rfl
    | q x=>cases x <;> rfl)
theorem hd_ac (pl:Pl):(Q.hd pl).ac=pl.rb:=by cases pl <;> rfl
theorem el_ac (pl:Pl) (i o:Nat):(Q.el pl i o).ac=pl.rb:=by cases pl <;> rfl
theorem rb_ro (pl:Pl):pl.rb.wob=none ∧ pl.rb.wsg=false ∧ pl.rb.fg=fun _=>false:=by cases pl <;> exact ⟨rfl,rfl,rfl⟩
theorem re_ro (pl:Pl):pl.re.wob=none ∧ pl.re.wsg=false ∧ pl.re.fg=fun _=>false:=by cases pl <;> exact ⟨rfl,rfl,rfl⟩
theorem shps_x {cs ds:List D} (h:Shps cs ds) {off sz:Nat} {xs:List D} (hx:cs[off]? = some (.l .x sz xs)):∃ ys,ds[off]? = some (.l .x sz ys) ∧ ys.length=xs.length:=by
 have hlt:off < ds.length:=by rw [← h.1]; exact (List.getElem?_eq_some_iff.1 hx).1
 have:=h.2 off _ _ hx (List.getElem?_eq_getElem hlt)
 rcases this with e | ⟨sz',xs',ys,e1,e2,e3⟩
 ·exact ⟨xs,by rw [List.getElem?_eq_getElem hlt,← e],rfl⟩
 ·cases e1; exact ⟨ys,by rw [List.getElem?_eq_getElem hlt,e2],e3.symm⟩
theorem at_rb {pl:Pl} {s t:St} (h:View pl.rb s t) {sz:Nat} {xs:List D} (hx:s.at pl=some (.l .x sz xs)):∃ ys,t.at pl=some (.l .x sz ys) ∧ ys.length=xs.length:=by
 cases pl with
 | ob k off =>
  simp only [St.at] at hx ⊢
  split at hx
  ·rename_i cs hcs
   obtain ⟨ds,h1,h2⟩:=h cs hcs
   simp only [h1]
   exact shps_x h2 hx
  ·cases hx
 | gb r off =>
  simp only [St.at] at hx ⊢
  split at hx
  ·rename_i cs hcs
   obtain ⟨ds,h1,h2⟩:=h r cs hcs
   simp only [h1]
   exact shps_x h2 hx
  ·cases hx
theorem at_re {pl:Pl} {s t:St} (h:View pl.re s t):t.at pl=s.at pl:=by
 cases pl with
 | ob k off=>have e:look k t.ob=look k s.ob:=h; simp only [St.at,e]
 | gb r off=>have e:t.sg=s.sg:=h.1; simp only [St.at,e]
theorem hpl_inv {r:R} {pl:Pl} {ac:Ac} (h:hpl r=some (pl,ac)):∃ q,r=.q q ∧ q.inn pl ∧ ac=pl.rb:=by
 cases r with
 | v d=>cases h
 | q x =>
  cases x with
  | ptr k o=>cases h
  | el p i o=>cases h
  | hdr k=>cases h; exact ⟨_,rfl,rfl,rfl⟩
  | hd p=>cases h; exact ⟨_,rfl,rfl,hd_ac _⟩
theorem locg_ia (sz:Nat) (len:Option Nat) (r:R) (v:D):LocG (r.qs ++ []) (fun s=>match v with | .i _ n=>(iav s sz len r.fz n).map fun (r,ac)=>(r,s,ac) | _=>none):=by
 refine locg_read (fun s r' s1 ac hs=>?_)
 cases v with
 | i kk n =>
  simp only [Option.map_eq_some_iff] at hs
  obtain ⟨⟨r1,ac1⟩,h1,h2⟩:=hs
  cases h2
  simp only
  unfold iav at h1 ⊢
  by_cases hn:n < 0
  ·rw [if_pos hn] at h1; cases h1
  ·rw [if_neg hn] at h1
   cases len with
   | some m =>
    simp only at h1
    by_cases hm:n < m
    ·rw [if_pos hm] at h1
     cases r with
     | v d =>
      simp only [R.fz] at h1 ⊢
      generalize d.fz=d' at h1 ⊢
      split at h1 <;> cases h1
      ·rename_i e; cases e
       exact ⟨by trivial,rfl,rfl,rfl,by simp [R.qs],fun x e=>(nomatch e),fun t _=>by simp [hn,hm, *]⟩
      ·rename_i e; cases e
       exact ⟨by trivial,rfl,rfl,rfl,by simp [R.qs],fun x e=>(nomatch e),fun t _=>by simp [hn,hm, *]⟩
      ·rename_i e; cases e
      ·rename_i e; cases e
     | q x =>
      simp only [R.fz] at h1 ⊢
      cases x with
      | ptr k o =>
       cases h1
       exact ⟨by trivial,rfl,rfl,rfl,by simp [R.qs]; exact cov_ptr _ _ _ _,fun x e=>by cases e; exact cov_ptr _ _ _ _,fun t _=>by simp [hn,hm]⟩
      | el p i o =>
       cases h1
       rw [el_ac]
       obtain ⟨a1,a2,a3⟩:=rb_ro p
       exact ⟨by trivial,a1,a2,a3,by simp [R.qs]; exact cov_b rfl,fun x e=>by cases e; exact cov_b rfl,fun t _=>by simp [hn,hm,el_ac]⟩
      | hd p=>cases h1
      | hdr k=>cases h1
    ·rw [if_neg hm] at h1; cases h1
   | none =>
    simp only at h1
    cases r with
    | v d =>
     simp only [R.fz] at h1 ⊢
     generalize d.fz=d' at h1 ⊢
     split at h1
     ·rename_i k sz' xs e
      cases e
      split at h1
      ·rename_i hc
       split at h1 <;> cases h1
       rename_i d' hd
       exact ⟨by trivial,rfl,rfl,rfl,by simp [R.qs],fun x e=>(nomatch e),fun t _=>by simp [hn, *]⟩
      ·cases h1
     ·simp only [hpl] at h1; cases h1
    | q x =>
     simp only [R.fz] at h1 ⊢
     split at h1
     ·rename_i pl ac2 hp
      obtain ⟨q,e,hi,rfl⟩:=hpl_inv hp
      cases e
      split at h1
      ·rename_i sz' xs hat
       split at h1 <;> cases h1
       rename_i hc
       obtain ⟨a1,a2,a3⟩:=rb_ro pl
       refine ⟨by trivial,a1,a2,a3,by simp [R.qs]; exact cov_b hi,fun x e=>by cases e; exact cov_b rfl,fun t hv=>?_⟩
       obtain ⟨ys,h3,h4⟩:=at_rb hv hat
       simp only [hn,if_false,hp,h3,h4]
       rw [if_pos hc]; rfl
      ·cases h1
     ·cases h1
 | _=>cases hs
theorem loc_ia (OO:Or) (m:TypeId → String → Option FuncId) (sz:Nat) (len:Option Nat) (x y:X) (dst:Option Nat):Loc (slotX x ++ slotX y) (tkX x ++ tkX y) (fun s=>evO OO m (.ia sz len x y) s dst) :=
 loc_gen ((rdq_rx x).pair (rd_rxv y).q) (G:=fun p s=>match p.2 with | .i _ n=>(iav s sz len p.1.fz n).map fun (r,ac)=>(r,s,ac) | _=>none) (fun p=>locg_ia sz len p.1 p.2)
  (fun s=>by
   simp only [evO]
   cases rx x s with
   | none=>rfl
   | some p =>
    obtain ⟨r,s1⟩:=p
    simp only
    cases h2:rxv y s1 with
    | none=>simp [h2]
    | some q=>obtain ⟨v,s2⟩:=q; simp [h2]; cases v <;> rfl)
theorem locg_len (str:Bool) (r:R):LocG r.qs (fun s=>(lenv s str r).map fun (n,ac)=>(.v (.i .i64 n),s,ac)):=by
 refine locg_read (fun s r' s1 ac hs=>?_)
 simp only [Option.map_eq_some_iff] at hs
 obtain ⟨⟨n,ac1⟩,h1,h2⟩:=hs
 cases h2
 unfold lenv at h1 ⊢
 cases str with
 | true =>
  simp only [if_true] at h1 ⊢
  split at h1 <;> cases h1
  exact ⟨by trivial,rfl,rfl,rfl,by simp [R.qs],fun x e=>(nomatch e),fun t _=>rfl⟩
 | false =>
  simp only [Bool.false_eq_true,if_false] at h1 ⊢
  split at h1
  ·cases h1
   exact ⟨by trivial,rfl,rfl,rfl,by simp [R.qs],fun x e=>(nomatch e),fun t _=>rfl⟩
  ·rename_i pl
   split at h1 <;> cases h1
   rename_i sz xs hat
   obtain ⟨a1,a2,a3⟩:=rb_ro pl
   rw [hd_ac]
   refine ⟨by trivial,a1,a2,a3,by simp [R.qs]; exact cov_b rfl,fun x e=>(nomatch e),fun t hv=>?_⟩
   obtain ⟨ys,h3,h4⟩:=at_rb hv hat
   simp [h3,h4]
  ·rename_i k
   split at h1 <;> cases h1
   rename_i sz xs hat
   refine ⟨by trivial,rfl,rfl,rfl,by simp [R.qs]; exact cov_b (pl:=.ob k 0) rfl,fun x e=>(nomatch e),fun t hv=>?_⟩
   obtain ⟨ys,h3,h4⟩:=at_rb (pl:=.ob k 0) hv hat
   simp [h3,h4]
  ·cases h1
theorem loc_len (OO:Or) (m:TypeId → String → Option FuncId) (str:Bool) (x:X) (dst:Option Nat):Loc (slotX x) (tkX x) (fun s=>evO OO m (.len str x) s dst) :=
 loc_gen (rdq_rx x) (G:=fun r s=>(lenv s str r).map fun (n,ac)=>(.v (.i .i64 n),s,ac)) (fun r=>locg_len str r) (fun s=>by simp only [evO]; cases rx x s <;> rfl)
theorem locg_app (sz bytes:Nat) (a:D) (r:R):LocG ([] ++ r.qs) (fun s=>match elems s r with | some (sz',ys)=>if sz'=sz then (appv sz bytes a ys).map fun d=>(.v d,s,r.acE) else none | none=>none):=by
 refine locg_read (fun s r' s1 ac hs=>?_)
 split at hs
 ·rename_i sz' ys he
  split at hs
  ·rename_i hsz
   simp only [Option.map_eq_some_iff] at hs
   obtain ⟨d,hd,e⟩:=hs
   cases e
   cases r with
   | v d' =>
    refine ⟨rfl,rfl,rfl,rfl,by simp [R.qs],fun x e=>(nomatch e),fun t _=>?_⟩
    have:elems t (.v d')=elems s (.v d'):=by cases d' <;> rfl
    rw [this,he]; simp only [if_pos hsz,hd,Option.map_some]
   | q x =>
    cases x with
    | ptr k o=>cases he
    | el p i o=>cases he
    | hd pl =>
     obtain ⟨a1,a2,a3⟩:=re_ro pl
     refine ⟨rfl,a1,a2,a3,by simp [R.qs]; exact cov_re rfl,fun x e=>(nomatch e),fun t hv=>?_⟩
     have e:t.at pl=s.at pl:=at_re hv
     have:elems t (.q (.hd pl))=elems s (.q (.hd pl)):=by simp only [elems,e]
     rw [this,he]; simp only [if_pos hsz,hd,Option.map_some]
    | hdr k =>
     refine ⟨rfl,rfl,rfl,rfl,by simp [R.qs]; exact cov_re (pl:=.ob k 0) rfl,fun x e=>(nomatch e),fun t hv=>?_⟩
     have e:t.at (.ob k 0)=s.at (.ob k 0):=at_re (pl:=.ob k 0) hv
     have:elems t (.q (.hdr k))=elems s (.q (.hdr k)):=by simp only [elems,e]
     rw [this,he]; simp only [if_pos hsz,hd,Option.map_some]
  ·cases hs
 ·cases hs
theorem loc_app (OO:Or) (m:TypeId → String → Option FuncId) (sz bytes:Nat) (x y:X) (dst:Option Nat):Loc (slotX x ++ slotX y) (tkX x ++ tkX y) (fun s=>evO OO m (.app sz bytes x y) s dst) :=
 loc_gen ((rd_rxv x).q.pair (rdq_rx y)) (G:=fun p s=>match elems s p.2 with | some (sz',ys)=>if sz'=sz then (appv sz bytes p.1 ys).map fun d=>(.v d,s,p.2.acE) else none | none=>none) (fun p=>locg_app sz bytes p.1 p.2)
  (fun s=>by
   simp only [evO]
   cases rxv x s with
   | none=>rfl
   | some p =>
    obtain ⟨a,s1⟩:=p
    simp only
    cases h2:rx y s1 with
    | none=>simp [h2]
    | some q=>obtain ⟨v,s2⟩:=q; simp only [h2]; cases elems s2 v <;> rfl)
theorem rng_sub {cs ds es:List D} {off n:Nat} (h:rng cs ds off n) (he:sub cs off n=some es):sub ds off n=some es:=by
 obtain ⟨h1,h2⟩:=h
 unfold sub at he ⊢
 split at he
 ·rename_i hb
  cases he
  rw [if_pos (by omega)]
  congr 1
  apply List.ext_getElem?
  intro j
  simp only [List.getElem?_take,List.getElem?_drop]
  split
  ·exact h2 _ (by omega) (by omega)
  ·rfl
 ·cases he
theorem sub_ok {cs:List D} {off n:Nat} {es:List D} (h:sub cs off n=some es):off + n ≤ cs.length:=by
 unfold sub at h; split at h
 ·assumption
 ·cases h
theorem sub_of_len {cs ds:List D} {off n:Nat} {es:List D} (h:cs.length=ds.length) (he:sub cs off n=some es):∃ fs,sub ds off n=some fs:=by
 have:=sub_ok he
 exact ⟨_,by unfold sub; rw [if_pos (by omega)]⟩
theorem ldp_loc {s agg n md r r' s1 ac} (h : ldp s agg n md r = some (r', s1, ac)) (hm : md = .cp ∨ md = .hd ∨ ∃ cs off, r = .v (.q cs off)) :
    s1=s ∧ ac.wob=none ∧ ac.wsg=false ∧ ac.fg=(fun _=>false) ∧ (∀ q ∈ r.qs,Cov ac q) ∧ (∀ x,r'=.q x → Cov ac x) ∧ ∀ t,View ac s t → ldp t agg n md r=some (r',t,ac):=by
 unfold ldp at h
 split at h
 ·rename_i k off
  split at h
  ·cases h
  ·rename_i cs hcs
   split at h
   ·cases h
   ·rename_i ds hds
    cases md with
    | cp =>
     simp only at h
     split at h
     ·rename_i es hes
      simp only [Option.map_eq_some_iff] at h
      obtain ⟨d,hd,e⟩:=h
      cases e
      refine ⟨rfl,rfl,rfl,rfl,by simp [R.qs]; exact cov_ptr _ _ _ _,fun x e=>(nomatch e),fun t hv=>?_⟩
      obtain ⟨fs,h1,h2⟩:=hv cs hcs
      simp only [ldp,h1,rng_sub h2 hds,hes,hd,Option.map_some]
     ·cases h
    | tk=>rcases hm with h | h | ⟨_,_,h⟩ <;> cases h
    | hd =>
     cases h
     refine ⟨rfl,rfl,rfl,rfl,by simp [R.qs]; exact cov_ptrb _ _,fun x e=>by cases e; exact cov_b (pl:=.ob k off) rfl,fun t hv=>?_⟩
     obtain ⟨fs,h1,h2⟩:=hv cs hcs
     obtain ⟨gs,h3⟩:=sub_of_len h2.1 hds
     simp only [ldp,h1,h3]
 ·rename_i g off
  split at h
  ·cases h
  ·rename_i cs hcs
   split at h
   ·cases h
   ·rename_i ds hds
    cases md with
    | cp =>
     simp only at h
     split at h
     ·rename_i es hes
      simp only [Option.map_eq_some_iff] at h
      obtain ⟨d,hd,e⟩:=h
      cases e
      refine ⟨rfl,rfl,rfl,rfl,by simp [R.qs],fun x e=>(nomatch e),fun t hv=>?_⟩
      obtain ⟨fs,h1,h2⟩:=hv cs hcs
      simp only [ldp,h1,rng_sub h2 hds,hes,hd,Option.map_some]
     ·cases h
    | tk=>rcases hm with h | h | ⟨_,_,h⟩ <;> cases h
    | hd =>
     cases h
     refine ⟨rfl,rfl,rfl,rfl,by simp [R.qs],fun x e=>by cases e; exact cov_b (pl:=.gb g off) rfl,fun t hv=>?_⟩
     obtain ⟨fs,h1,h2⟩:=hv g cs hcs
     obtain ⟨gs,h3⟩:=sub_of_len h2.1 hds
     simp only [ldp,h1,h3]
 ·split at h
  ·cases h
  ·rename_i ds hds
   simp only [Option.map_eq_some_iff] at h
   obtain ⟨d,hd,e⟩:=h
   cases e
   refine ⟨rfl,rfl,rfl,rfl,by simp [R.qs],fun x e=>(nomatch e),fun t hv=>?_⟩
   simp only [ldp,hds,hd,Option.map_some]
 ·rename_i pl ix fo
  split at h
  ·rename_i sz xs hat
   split at h
   ·cases h
   ·rename_i d0 hix
    split at h
    ·cases h
    ·rename_i ds hds
     rcases hm with rfl | rfl | ⟨_,_,e⟩
     ·simp only at h
      split at h
      ·rename_i es hes
       simp only [Option.map_eq_some_iff] at h
       obtain ⟨d,hd,e⟩:=h
       cases e
       obtain ⟨a1,a2,a3⟩:=re_ro pl
       refine ⟨rfl,a1,a2,a3,by simp [R.qs]; exact cov_re rfl,fun x e=>(nomatch e),fun t hv=>?_⟩
       have e:=at_re hv
       simp only [ldp,e,hat,hix,hds,hes,hd,Option.map_some]
      ·cases h
     ·cases h
     ·cases e
  ·cases h
 ·cases h
theorem shps_set {cs:List D} {off sz:Nat} {xs ys:List D} (h:cs[off]? = some (.l .x sz xs)) (hl:ys.length=xs.length):Shps cs (cs.set off (.l .x sz ys)):=by
 refine ⟨by simp,fun j c d e e'=>?_⟩
 by_cases hj:off=j
 ·subst hj
  have hlt:off < cs.length:=(List.getElem?_eq_some_iff.1 h).1
  rw [h] at e; cases e
  rw [List.getElem?_set_self hlt] at e'; cases e'
  exact .inr ⟨sz,xs,ys,rfl,rfl,hl.symm⟩
 ·rw [List.getElem?_set_ne hj,e] at e'; cases e'; exact .inl rfl
theorem el_step {s : St} {pl : Pl} {sz : Nat} {xs ys : List D} (hat : s.at pl = some (.l .x sz xs)) (hl : ys.length = xs.length) (lof : Nat → Nat) (hlo : ∀ k off, pl = .ob k off → lof = id) :
    ∃ u:Up,(∀ k y,u.fr k y=y.map (fgt pl.we.fg)) ∧ ObOK pl.we u ∧ ∀ t,View pl.we s t → t.at pl=some (.l .x sz xs) ∧ Ap u t { t.setAt pl (.l .x sz ys) with lo:=lof t.lo } ∧ Sh pl.we t { t.setAt pl (.l .x sz ys) with lo:=lof t.lo }:=by
 cases pl with
 | ob k off =>
  have hid:=hlo k off rfl
  subst hid
  simp only [St.at] at hat
  split at hat
  ·rename_i cs hcs
   refine ⟨⟨fun _ y=>y,fun j y=>if j=k then some (cs.set off (.l .x sz ys)) else y,fun x=>x,fun x=>x⟩,fun _ y=>fgt_no y,⟨?_,fun _=>⟨fun _=>rfl,fun _=>rfl⟩,fun _ _ _ e=>(nomatch e),?_,fun _ _ _ e=>(nomatch e)⟩,fun t hv=>?_⟩
   ·intro j hj y
    have:j ≠ k:=fun e=>hj (by rw [e]; rfl)
    simp [this]
   ·intro j e
    rcases e with e | e <;> cases e
    exact ⟨cs.set off (.l .x sz ys),fun y=>by simp⟩
   ·have hv:look k t.ob=look k s.ob:=hv
    have hk:look k t.ob=some cs:=hv.trans hcs
    refine ⟨by simp only [St.at,hk]; exact hat,⟨fun _=>?_,fun j=>?_,?_,?_⟩,?_,fun e=>(nomatch e)⟩
    ·simp [St.setAt,hk]
    ·simp only [St.setAt,hk,look_cons]
     by_cases e:k=j
     ·simp [e]
     ·rw [if_neg e,if_neg (fun h=>e h.symm)]
    ·simp [St.setAt,hk]
    ·simp [St.setAt,hk]
    ·intro j e; cases e
     exact ⟨cs,cs.set off (.l .x sz ys),hk,by simp [St.setAt,hk,look_cons],shps_set hat hl⟩
  ·cases hat
 | gb r off =>
  simp only [St.at] at hat
  split at hat
  ·rename_i cs hcs
   refine ⟨⟨fun _ y=>y,fun _ y=>y,fun _=>s.sg.set r (cs.set off (.l .x sz ys)),lof⟩,fun _ y=>fgt_no y,⟨fun _ _ _=>rfl,fun e=>(nomatch e),fun _ _ _ e=>(nomatch e),fun k e=>(by rcases e with e | e <;> cases e),fun _ _ _ e=>(nomatch e)⟩,fun t hv=>?_⟩
   obtain ⟨h1,h2⟩:t.sg=s.sg ∧ t.lo=s.lo:=hv
   have hk:t.sg[r]? = some cs:=by rw [h1]; exact hcs
   refine ⟨by simp only [St.at,hk]; exact hat,⟨fun _=>?_,fun j=>?_,?_,?_⟩,fun j e=>(nomatch e),fun _=>?_⟩
   ·simp [St.setAt,hk]
   ·simp [St.setAt,hk]
   ·simp only [St.setAt,hk]; rw [h1]
   ·simp [St.setAt,hk]
   ·simp only [St.setAt,hk]
    refine ⟨by simp,fun j c d e e'=>?_⟩
    by_cases hj:r=j
    ·subst hj
     have hlt:r < t.sg.length:=(List.getElem?_eq_some_iff.1 hk).1
     rw [hk] at e; cases e
     rw [List.getElem?_set_self hlt] at e'; cases e'
     exact shps_set hat hl
    ·rw [List.getElem?_set_ne hj,e] at e'; cases e'; exact .refl _
  ·cases hat
theorem pre_we (pl:Pl) (s:St):Pre pl.we s:=by cases pl <;> exact trivial
theorem setAt_lo (s:St) (pl:Pl) (d:D):({ s.setAt pl d with lo:=s.lo }:St)=s.setAt pl d:=by
 cases pl with
 | ob k off=>simp only [St.setAt]; split <;> rfl
 | gb r off=>simp only [St.setAt]; split <;> rfl
theorem wl_step (k off n : Nat) (vs : List D) (hl : vs.length = n) : ∃ u : Up, (∀ j y, u.fr j y = y.map (fgt (Q.bor k))) ∧ ObOK (.wl k off n) u ∧
    ∀ (t:St) (ds:List D),look k t.ob=some ds → Ap u t { t with ob:=(k,ovr ds off vs) :: t.ob,fr:=forget (Q.bor k) t.fr }:=by
 refine ⟨⟨fun _ y=>y.map (fgt (Q.bor k)),fun j y=>if j=k then y.map (fun cs=>ovr cs off vs) else y,fun x=>x,fun x=>x⟩,fun _ _=>rfl,⟨?_,fun _=>⟨fun _=>rfl,fun _=>rfl⟩,?_,fun j e=>(by rcases e with e | e <;> cases e),fun _ _ _ e=>(nomatch e)⟩,?_⟩
 ·intro j hj y
  have:j ≠ k:=fun e=>hj (by rw [e]; rfl)
  simp [this]
 ·intro j o m e; cases e
  exact ⟨vs,hl,fun y=>by simp⟩
 ·intro t ds hds
  refine ⟨fun j=>by rw [look_forget],fun j=>?_,rfl,rfl⟩
  simp only [look_cons]
  by_cases e:k=j
  ·subst e; simp [hds]
  ·rw [if_neg e,if_neg (fun h=>e h.symm)]
theorem wg_step (g off n : Nat) (vs : List D) (hl : vs.length = n) (lof : Nat → Nat) (hlo : (∀ x, lof x = x) ∨ ∃ m, ∀ x, lof x = min x m) : ∃ u : Up, (∀ j y, u.fr j y = y.map (fgt Q.gl)) ∧ ObOK (.wg g off n) u ∧
    ∀ (t:St) (ds:List D),t.sg[g]? = some ds → Ap u t { t with sg:=t.sg.set g (ovr ds off vs),fr:=forget Q.gl t.fr,lo:=lof t.lo }:=by
 refine ⟨⟨fun _ y=>y.map (fgt Q.gl),fun j y=>y,fun x=>x.modify g (fun cs=>ovr cs off vs),lof⟩,fun _ _=>rfl,⟨fun _ _ _=>rfl,fun e=>(nomatch e),fun _ _ _ e=>(nomatch e),fun j e=>(by rcases e with e | e <;> cases e),?_⟩,?_⟩
 ·intro j o m e; cases e
  exact ⟨⟨vs,hl,fun _=>rfl⟩,hlo⟩
 ·intro t ds hds
  refine ⟨fun j=>by rw [look_forget],fun j=>rfl,?_,rfl⟩
  dsimp only
  apply List.ext_getElem?
  intro j
  by_cases e:g=j
  ·subst e
   have hlt:g < t.sg.length:=(List.getElem?_eq_some_iff.1 hds).1
   rw [List.getElem?_set_self hlt,List.getElem?_modify_eq,hds]; rfl
  ·rw [List.getElem?_set_ne e,List.getElem?_modify_ne _ _ e]
theorem sh_wl (k off n:Nat) (t t':St):Sh (.wl k off n) t t':=⟨fun j e=>(nomatch e),fun e=>(nomatch e)⟩
theorem sh_wg (k off n:Nat) (t t':St):Sh (.wg k off n) t t':=⟨fun j e=>(nomatch e),fun e=>(nomatch e)⟩
theorem locg_ld (agg:Bool) (n:Nat) (md:M) (r:R):LocG r.qs (fun s=>ldp s agg n md r):=by
 by_cases hm:md=.tk
 ·subst hm
  intro s r' s1 ac hs
  have hs0:=hs
  dsimp only at hs
  unfold ldp at hs
  split at hs
  ·rename_i k off
   split at hs
   ·cases hs
   ·rename_i cs hcs
    split at hs
    ·cases hs
    ·rename_i ds hds
     simp only [Option.map_eq_some_iff] at hs
     obtain ⟨d,hd,e⟩:=hs
     cases e
     obtain ⟨u,h1,h2,h3⟩:=wl_step k off n (List.replicate n .w) (by simp)
     refine ⟨by simp [R.qs]; exact cov_ptrw _ _ _ _,fun x e=>(nomatch e),⟨cs,hcs,sub_ok hds⟩,u,h1,h2,h3 s cs hcs,sh_wl _ _ _ _ _,fun t hv=>?_⟩
     obtain ⟨fs,k1,k2⟩:=hv cs hcs
     exact ⟨_,by simp only [ldp,k1,rng_sub k2 hds,hd,Option.map_some],h3 t fs k1,sh_wl _ _ _ _ _⟩
  ·rename_i g off
   split at hs
   ·cases hs
   ·rename_i cs hcs
    split at hs
    ·cases hs
    ·rename_i ds hds
     simp only [Option.map_eq_some_iff] at hs
     obtain ⟨d,hd,e⟩:=hs
     cases e
     obtain ⟨u,h1,h2,h3⟩:=wg_step g off n (List.replicate n .w) (by simp) id (.inl fun _=>rfl)
     refine ⟨by simp [R.qs],fun x e=>(nomatch e),⟨cs,hcs,sub_ok hds⟩,u,h1,h2,h3 s cs hcs,sh_wg _ _ _ _ _,fun t hv=>?_⟩
     obtain ⟨fs,k1,k2⟩:=hv cs hcs
     exact ⟨_,by simp only [ldp,k1,rng_sub k2 hds,hd,Option.map_some]; rfl,h3 t fs k1,sh_wg _ _ _ _ _⟩
  ·rename_i cs off
   exact locg_read (qs:=R.qs (.v (.q cs off))) (G:=fun s=>ldp s agg n .tk (.v (.q cs off))) (fun s r s1 ac h=>ldp_loc h (.inr (.inr ⟨_,_,rfl⟩))) s r' s1 ac hs0
  ·rename_i pl ix fo
   split at hs
   ·rename_i sz xs hat
    split at hs
    ·cases hs
    ·rename_i d0 hix
     split at hs
     ·cases hs
     ·rename_i ds hds
      simp only at hs
      split at hs
      ·rename_i d' hd'
       simp only [Option.map_eq_some_iff] at hs
       obtain ⟨e,he,e2⟩:=hs
       cases e2
       obtain ⟨u,h1,h2,h3⟩:=el_step (ys:=xs.set ix d') hat (by simp) id (fun _ _ _=>rfl)
       have hself:View pl.we s s:=by cases pl <;> first | exact rfl | exact ⟨rfl,rfl⟩
       obtain ⟨_,h4,h5⟩:=h3 s hself
       simp only [id,setAt_lo] at h4 h5
       refine ⟨by simp [R.qs]; exact cov_we rfl,fun x e=>?_,pre_we pl s,u,h1,h2,h4,h5,fun t hv=>?_⟩
       ·cases e
       ·obtain ⟨k1,k2,k3⟩:=h3 t hv
        simp only [id,setAt_lo] at k2 k3
        exact ⟨_,by simp only [ldp,k1,hix,hds,hd',he,Option.map_some],k2,k3⟩
      ·cases hs
   ·cases hs
  ·cases hs
 ·exact locg_read (fun s r' s1 ac h=>ldp_loc h (by cases md <;> simp at hm ⊢))
theorem loc_ld (OO:Or) (m:TypeId → String → Option FuncId) (agg:Bool) (n:Nat) (md:M) (x:X) (dst:Option Nat):Loc (slotX x) (tkX x) (fun s=>evO OO m (.ld agg n md x) s dst) :=
 loc_gen (rdq_rx x) (G:=fun r s=>ldp s agg n md r) (fun r=>locg_ld agg n md r) (fun s=>by simp only [evO]; cases rx x s <;> rfl)
theorem locg_lda (n:Nat) (r:R):LocG r.qs (fun s=>ldp s false n (auM s r) r):=by
 refine locg_read (fun s r' s1 ac hs=>?_)
 have hmode:auM s r=.cp ∨ auM s r=.hd:=by
  unfold auM
  split
  ·exact .inr rfl
  ·exact .inl rfl
 obtain ⟨h1,h2,h3,h4,h5,h6,h7⟩:=ldp_loc hs (hmode.imp id (fun h=>.inl h))
 refine ⟨h1,h2,h3,h4,h5,h6,fun t hv=>?_⟩
 have hau:auM t r=auM s r:=by
  cases r with
  | q x =>
   cases x with
   | ptr k off =>
    rcases hmode with e | e
    ·rw [e] at hs
     simp only [ldp] at hs
     split at hs
     ·cases hs
     ·rename_i cs hcs
      split at hs
      ·cases hs
      ·rename_i ds hds
       split at hs
       ·rename_i es hes
        simp only [Option.map_eq_some_iff] at hs
        obtain ⟨d,hd,e2⟩:=hs
        cases e2
        obtain ⟨fs,k1,k2⟩:=hv cs hcs
        have hn:0 < n:=by
         rcases Nat.eq_zero_or_pos n with rfl | h
         ·have:ds=[] := by have:=(sub_len hds).1; exact List.eq_nil_of_length_eq_zero this
          subst this
          simp [D.cps] at hes; subst hes
          simp [ofc] at hd
         ·exact h
        have:fs[off]? = cs[off]? := k2.2 off (Nat.le_refl _) (by omega)
        simp only [auM,St.at,hcs,k1,this]
       ·cases hs
    ·rw [e] at hs
     simp only [ldp] at hs
     split at hs
     ·cases hs
     ·rename_i cs hcs
      split at hs
      ·cases hs
      ·cases hs
       obtain ⟨fs,k1,k2⟩:=hv cs hcs
       unfold auM at e ⊢
       simp only [St.at,hcs,k1] at e ⊢
       split at e
       ·rename_i sz xs hx
        obtain ⟨ys,h,_⟩:=shps_x k2 hx
        rw [h]
       ·cases e
   | _=>rfl
  | v d =>
   cases d with
   | p g off =>
    rcases hmode with e | e
    ·rw [e] at hs
     simp only [ldp] at hs
     split at hs
     ·cases hs
     ·rename_i cs hcs
      split at hs
      ·cases hs
      ·rename_i ds hds
       split at hs
       ·rename_i es hes
        simp only [Option.map_eq_some_iff] at hs
        obtain ⟨d,hd,e2⟩:=hs
        cases e2
        obtain ⟨fs,k1,k2⟩:=hv cs hcs
        have hn:0 < n:=by
         rcases Nat.eq_zero_or_pos n with rfl | h
         ·have:ds=[] := by have:=(sub_len hds).1; exact List.eq_nil_of_length_eq_zero this
          subst this
          simp [D.cps] at hes; subst hes
          simp [ofc] at hd
         ·exact h
        have:fs[off]? = cs[off]? := k2.2 off (Nat.le_refl _) (by omega)
        simp only [auM,St.at,hcs,k1,this]
       ·cases hs
    ·rw [e] at hs
     simp only [ldp] at hs
     split at hs
     ·cases hs
     ·rename_i cs hcs
      split at hs
      ·cases hs
      ·cases hs
       obtain ⟨fs,k1,k2⟩:=hv g cs hcs
       unfold auM at e ⊢
       simp only [St.at,hcs,k1] at e ⊢
       split at e
       ·rename_i sz xs hx
        obtain ⟨ys,h,_⟩:=shps_x k2 hx
        rw [h]
       ·cases e
   | _=>rfl
 rw [hau]
 exact h7 t hv
theorem loc_lda (OO:Or) (m:TypeId → String → Option FuncId) (n:Nat) (x:X) (dst:Option Nat):Loc (slotX x) (tkX x) (fun s=>evO OO m (.lda n x) s dst) :=
 loc_gen (rdq_rx x) (G:=fun r s=>ldp s false n (auM s r) r) (fun r=>locg_lda n r) (fun s=>by simp only [evO]; cases rx x s <;> rfl)
def loF (v:D):Pl → Nat → Nat
 | .gb g _,x=>if D.nr 0 v then x else min x g
 | .ob _ _,x=>x
theorem loAt_F (t:St) (v:D) (pl:Pl):t.loAt v pl=loF v pl t.lo:=by cases pl <;> rfl
theorem locg_st (n:Nat) (r:R) (v:D):LocG (r.qs ++ []) (fun s=>if stb v then (stp s n r v).map fun (s,ac)=>(.v .u,s,ac) else none):=by
 intro s r' s1 ac hs
 dsimp only at hs
 split at hs
 ·rename_i hstb
  simp only [Option.map_eq_some_iff] at hs
  obtain ⟨⟨s2,ac2⟩,h1,h2⟩:=hs
  cases h2
  unfold stp at h1
  split at h1
  ·rename_i hlen
   split at h1
   ·rename_i k off
    split at h1
    ·cases h1
    ·rename_i cs hcs
     split at h1
     ·rename_i hbd
      cases h1
      have hap:∀ t ds,look k t.ob=some ds → Ap ⟨fun _ y=>y.map (fgt (Q.bor k)),fun j y=>if j=k then y.map (fun cs=>ovr cs off v.cells) else y,fun x=>x,fun x=>x⟩ t { t with ob:=(k,ovr ds off v.cells) :: t.ob,fr:=forget (Q.bor k) t.fr }:=by
       intro t ds hds
       refine ⟨fun j=>by rw [look_forget],fun j=>?_,rfl,rfl⟩
       simp only [look_cons]
       by_cases e:k=j
       ·subst e; simp [hds]
       ·rw [if_neg e,if_neg (fun h=>e h.symm)]
      have hsh:∀ t t',Sh (.wl k off n) t t':=fun t t'=>⟨fun j e=>(nomatch e),fun e=>(nomatch e)⟩
      refine ⟨by simp [R.qs]; exact cov_ptrw _ _ _ _,fun x e=>(nomatch e),⟨cs,hcs,hbd⟩,_,fun j y=>rfl,⟨?_,fun _=>⟨fun _=>rfl,fun _=>rfl⟩,?_,fun j e=>(by rcases e with e | e <;> cases e),fun _ _ _ e=>(nomatch e)⟩,hap s cs hcs,hsh _ _,fun t hv=>?_⟩
      ·intro j hj y
       have:j ≠ k:=fun e=>hj (by rw [e]; rfl)
       simp [this]
      ·intro j o m e; cases e
       exact ⟨v.cells,hlen,fun y=>by simp⟩
      ·obtain ⟨ds,k1,k2⟩:=hv cs hcs
       exact ⟨_,by dsimp only; rw [if_pos hstb]; simp only [stp,if_pos hlen,k1,k2.1,if_pos hbd,Option.map_some],hap t ds k1,hsh _ _⟩
     ·cases h1
   ·rename_i g off
    split at h1
    ·cases h1
    ·rename_i cs hcs
     split at h1
     ·rename_i hbd
      cases h1
      have hap:∀ t ds,t.sg[g]? = some ds → Ap ⟨fun _ y=>y.map (fgt Q.gl),fun j y=>y,fun x=>x.modify g (fun cs=>ovr cs off v.cells),fun x=>if D.nr 0 v then x else min x g⟩ t { t with sg:=t.sg.set g (ovr ds off v.cells),fr:=forget Q.gl t.fr,lo:=if D.nr 0 v then t.lo else min t.lo g }:=by
       intro t ds hds
       refine ⟨fun j=>by rw [look_forget],fun j=>rfl,?_,rfl⟩
       dsimp only
       apply List.ext_getElem?
       intro j
       by_cases e:g=j
       ·subst e
        have hlt:g < t.sg.length:=(List.getElem?_eq_some_iff.1 hds).1
        rw [List.getElem?_set_self hlt,List.getElem?_modify_eq,hds]; rfl
       ·rw [List.getElem?_set_ne e,List.getElem?_modify_ne _ _ e]
      have hsh:∀ t t',Sh (.wg g off n) t t':=fun t t'=>⟨fun j e=>(nomatch e),fun e=>(nomatch e)⟩
      refine ⟨by simp [R.qs],fun x e=>(nomatch e),⟨cs,hcs,hbd⟩,_,fun j y=>rfl,⟨fun _ _ _=>rfl,fun e=>(nomatch e),fun _ _ _ e=>(nomatch e),fun j e=>(by rcases e with e | e <;> cases e),?_⟩,hap s cs hcs,hsh _ _,fun t hv=>?_⟩
      ·intro j o m e; cases e
       refine ⟨⟨v.cells,hlen,fun _=>rfl⟩,?_⟩
       by_cases hn:D.nr 0 v=true
       ·exact .inl (fun x=>by simp [hn])
       ·exact .inr ⟨g,fun x=>by simp [hn]⟩
      ·obtain ⟨ds,k1,k2⟩:=hv cs hcs
       exact ⟨_,by dsimp only; rw [if_pos hstb]; simp only [stp,if_pos hlen,k1,k2.1,if_pos hbd,Option.map_some],hap t ds k1,hsh _ _⟩
     ·cases h1
   ·rename_i pl ix fo
    split at h1
    ·rename_i sz xs hat
     split at h1
     ·cases h1
     ·rename_i d0 hix
      split at h1
      ·rename_i hbd
       split at h1
       ·rename_i d' hd'
        cases h1
        have hlof:∀ t:St,t.loAt v pl=loF v pl t.lo:=fun t=>loAt_F t v pl
        obtain ⟨u,h1,h2,h3⟩:=el_step (ys:=xs.set ix d') hat (by simp) (loF v pl) (fun k off e=>by subst e; rfl)
        have hself:View pl.we s s:=by cases pl <;> first | exact rfl | exact ⟨rfl,rfl⟩
        obtain ⟨_,h4,h5⟩:=h3 s hself
        refine ⟨by simp [R.qs]; exact cov_we rfl,fun x e=>(nomatch e),pre_we pl s,u,h1,h2,by rw [hlof]; exact h4,by rw [hlof]; exact h5,fun t hv=>?_⟩
        obtain ⟨k1,k2,k3⟩:=h3 t hv
        exact ⟨{ t.setAt pl (.l .x sz (xs.set ix d')) with lo:=t.loAt v pl },by dsimp only; rw [if_pos hstb]; simp only [stp,if_pos hlen,k1,hix,if_pos hbd,hd',Option.map_some],by rw [hlof]; exact k2,by rw [hlof]; exact k3⟩
       ·cases h1
      ·cases h1
    ·cases h1
   ·cases h1
  ·cases h1
 ·cases hs
theorem loc_st (OO:Or) (m:TypeId → String → Option FuncId) (n:Nat) (x y:X) (dst:Option Nat):Loc (slotX x ++ slotX y) (tkX x ++ tkX y) (fun s=>evO OO m (.st n x y) s dst) :=
 loc_gen ((rdq_rx x).pair (rd_rxv y).q) (G:=fun p s=>if stb p.2 then (stp s n p.1 p.2).map fun (s,ac)=>(.v .u,s,ac) else none) (fun p=>locg_st n p.1 p.2)
  (fun s=>by
   simp only [evO]
   cases rx x s with
   | none=>rfl
   | some p =>
    obtain ⟨r,s1⟩:=p
    simp only
    cases h2:rxv y s1 with
    | none=>simp [h2]
    | some q=>obtain ⟨v,s2⟩:=q; simp only [h2])
theorem locg_new (k:Nat) (z:List D):LocG [] (fun s=>some (.q (.ptr k 0),{ s with ob:=(k,z) :: s.ob,fr:=forget (Q.ofk k) s.fr },.wk k)):=by
 intro s r s1 ac hs
 cases hs
 have hap:∀ t:St,Ap ⟨fun _ y=>y.map (fgt (Q.ofk k)),fun j y=>if j=k then some z else y,fun x=>x,fun x=>x⟩ t { t with ob:=(k,z) :: t.ob,fr:=forget (Q.ofk k) t.fr }:=by
  intro t
  refine ⟨fun j=>by rw [look_forget],fun j=>?_,rfl,rfl⟩
  simp only [look_cons]
  by_cases e:k=j
  ·subst e; simp
  ·rw [if_neg e,if_neg (fun h=>e h.symm)]
 have hsh:∀ t t',Sh (.wk k) t t':=fun t t'=>⟨fun j e=>(nomatch e),fun e=>(nomatch e)⟩
 refine ⟨by simp,fun x e=>by cases e; exact cov_ptrk _ _,trivial,_,fun j y=>rfl,⟨?_,fun _=>⟨fun _=>rfl,fun _=>rfl⟩,fun _ _ _ e=>(nomatch e),?_,fun _ _ _ e=>(nomatch e)⟩,hap s,hsh _ _,fun t hv=>⟨_,rfl,hap t,hsh _ _⟩⟩
 ·intro j hj y
  have:j ≠ k:=fun e=>hj (by rw [e]; rfl)
  simp [this]
 ·intro j e
  rcases e with e | e <;> cases e
  exact ⟨z,fun y=>by simp⟩
theorem locg_ag (z:List D):LocG [] (fun s=>some (.v (.p s.sg.length 0),{ s with sg:=s.sg ++ [z] },.ag)):=by
 intro s r s1 ac hs
 cases hs
 have hsh:∀ t t',Sh .ag t t':=fun t t'=>⟨fun j e=>(nomatch e),fun e=>(nomatch e)⟩
 refine ⟨by simp,fun x e=>(nomatch e),trivial,⟨fun _ y=>y,fun _ y=>y,fun _=>s.sg ++ [z],fun x=>x⟩,fun _ y=>fgt_no y,⟨fun _ _ _=>rfl,fun e=>(nomatch e),fun _ _ _ e=>(nomatch e),fun j e=>(by rcases e with e | e <;> cases e),fun _ _ _ e=>(nomatch e)⟩,⟨fun _=>rfl,fun _=>rfl,rfl,rfl⟩,hsh _ _,fun t hv=>?_⟩
 obtain ⟨h1,h2⟩:t.sg=s.sg ∧ t.lo=s.lo:=hv
 exact ⟨{ t with sg:=t.sg ++ [z] },by dsimp only; rw [h1],⟨fun _=>rfl,fun _=>rfl,by rw [h1],rfl⟩,hsh _ _⟩
theorem locg_none (qs:List Q):LocG qs (fun _=>none):=fun s r s1 ac h=>nomatch h
theorem loc_al (OO:Or) (m:TypeId → String → Option FuncId) (z:List D) (dst:Option Nat):Loc [] [] (fun s=>evO OO m (.al z) s dst) :=
 match dst with
 | none=>loc_gen (Rdq.nil () (fun _=>[])) (G:=fun _ s=>none) (fun _=>locg_none _) (fun s=>rfl)
 | some k=>loc_gen (Rdq.nil () (fun _=>[])) (G:=fun _ s=>some (.q (.ptr k 0),{ s with ob:=(k,z) :: s.ob,fr:=forget (Q.ofk k) s.fr },.wk k)) (fun _=>locg_new k z) (fun s=>rfl)
theorem loc_ag (OO:Or) (m:TypeId → String → Option FuncId) (z:List D) (dst:Option Nat):Loc [] [] (fun s=>evO OO m (.ag z) s dst) :=
 loc_gen (Rdq.nil () (fun _=>[])) (G:=fun _ s=>some (.v (.p s.sg.length 0),{ s with sg:=s.sg ++ [z] },.ag)) (fun _=>locg_ag z) (fun s=>rfl)
theorem locg_if {c:Prop} [Decidable c] {qs:List Q} {G:St → Option (R × St × Ac)} (h:LocG qs G):LocG qs (fun s=>if c then G s else none):=by
 by_cases hc:c
 ·simpa [hc] using h
 ·simpa [hc] using locg_none qs
theorem loc_bx (OO:Or) (m:TypeId → String → Option FuncId) (x:X) (dst:Option Nat):Loc (slotX x) (tkX x) (fun s=>evO OO m (.bx x) s dst) :=
 match dst with
 | none=>loc_gen ((rd_rxv x).q) (G:=fun _ s=>none) (fun _=>locg_none _) (fun s=>by simp only [evO]; cases rxv x s <;> rfl)
 | some k => loc_gen ((rd_rxv x).q) (G := fun d s => if stb d then some (.q (.ptr k 0), { s with ob := (k, d.cells) :: s.ob, fr := forget (Q.ofk k) s.fr }, .wk k) else none) (fun d => locg_if (locg_new k d.cells))
     (fun s=>by simp only [evO]; cases rxv x s <;> rfl)
theorem loc_bg (OO:Or) (m:TypeId → String → Option FuncId) (x:X) (dst:Option Nat):Loc (slotX x) (tkX x) (fun s=>evO OO m (.bg x) s dst) :=
 loc_gen ((rd_rxv x).q) (G:=fun d s=>if stb d then some (.v (.p s.sg.length 0),{ s with sg:=s.sg ++ [d.cells] },.ag) else none) (fun d=>locg_if (locg_ag d.cells))
  (fun s=>by simp only [evO]; cases rxv x s <;> rfl)
theorem locg_call (OO:Or) (f:FuncId) (ds:List D):LocG [] (fun s=>(OO.call f ds s.sg s.sg.length).map fun (d,sg,lo)=>(.v d,{ s with sg:=sg,lo:=min s.lo lo,fr:=forget Q.gl s.fr },.cl (D.beqs (sg.map .t) (s.sg.map .t) && decide (s.lo ≤ lo)))):=by
 intro s r s1 ac hs
 simp only [Option.map_eq_some_iff] at hs
 obtain ⟨⟨d,sg,lo⟩,h1,h2⟩:=hs
 cases h2
 have hsh:∀ b t t',Sh (.cl b) t t':=fun b t t'=>⟨fun j e=>(nomatch e),fun e=>(nomatch e)⟩
 cases hp:(D.beqs (sg.map .t) (s.sg.map .t) && decide (s.lo ≤ lo)) with
 | true =>
  simp only [Bool.and_eq_true,decide_eq_true_eq] at hp
  have hsg:sg=s.sg:=map_t_inj (beqs_eq _ _ hp.1)
  have hlo:min s.lo lo=s.lo:=by omega
  refine ⟨by simp,fun x e=>(nomatch e),trivial,⟨fun _ y=>y.map (fgt Q.gl),fun _ y=>y,fun x=>x,fun x=>x⟩,fun _ y=>rfl,⟨fun _ _ _=>rfl,fun _=>⟨fun _=>rfl,fun _=>rfl⟩,fun _ _ _ e=>(nomatch e),fun j e=>(by rcases e with e | e <;> cases e),fun _ _ _ e=>(nomatch e)⟩,⟨fun j=>by rw [look_forget],fun _=>rfl,hsg,hlo⟩,hsh _ _ _,fun t hv=>?_⟩
  obtain ⟨k1,k2⟩:t.sg=s.sg ∧ t.lo=s.lo:=hv
  refine ⟨{ t with sg:=sg,lo:=min t.lo lo,fr:=forget Q.gl t.fr },?_,⟨fun j=>by rw [look_forget],fun _=>rfl,hsg.trans k1.symm,by dsimp only; rw [k2]; exact hlo⟩,hsh _ _ _⟩
  have e:(D.beqs (sg.map .t) (s.sg.map .t) && decide (s.lo ≤ lo))=true:=by rw [Bool.and_eq_true,decide_eq_true_eq]; exact hp
  simp only [k1,k2,h1,Option.map_some,e]
 | false =>
  refine ⟨by simp,fun x e=>(nomatch e),trivial,⟨fun _ y=>y.map (fgt Q.gl),fun _ y=>y,fun _=>sg,fun x=>min x lo⟩,fun _ y=>rfl,⟨fun _ _ _=>rfl,fun e=>(nomatch e),fun _ _ _ e=>(nomatch e),fun j e=>(by rcases e with e | e <;> cases e),fun _ _ _ e=>(nomatch e)⟩,⟨fun j=>by rw [look_forget],fun _=>rfl,rfl,rfl⟩,hsh _ _ _,fun t hv=>?_⟩
  obtain ⟨k1,k2⟩:t.sg=s.sg ∧ t.lo=s.lo:=hv
  refine ⟨{ t with sg:=sg,lo:=min t.lo lo,fr:=forget Q.gl t.fr },?_,⟨fun j=>by rw [look_forget],fun _=>rfl,rfl,rfl⟩,hsh _ _ _⟩
  simp only [k1,k2,h1,Option.map_some,hp]
theorem loc_call (OO:Or) (m:TypeId → String → Option FuncId) (f:FuncId) (xs:List X) (dst:Option Nat):Loc (xs.flatMap slotX) (xs.flatMap tkX) (fun s=>evO OO m (.call f xs) s dst) :=
 loc_gen ((rd_rxs xs).q) (G:=fun ds s=>(OO.call f ds s.sg s.sg.length).map fun (d,sg,lo)=>(.v d,{ s with sg:=sg,lo:=min s.lo lo,fr:=forget Q.gl s.fr },.cl (D.beqs (sg.map .t) (s.sg.map .t) && decide (s.lo ≤ lo))))
  (fun ds=>locg_call OO f ds) (fun s=>by simp only [evO]; cases rxs xs s <;> rfl)
theorem locg_callr (OO:Or) (f:FuncId) (ds:List D) (r0:Nat):LocG [] (fun s=>(callrv OO f ds r0 s.sg).map fun d=>(.v d,{ s with fr:=forget (Q.glx r0) s.fr },.clx r0)):=by
 intro s r s1 ac hs
 simp only [Option.map_eq_some_iff] at hs
 obtain ⟨d,h1,h2⟩:=hs
 cases h2
 have hsh:∀ t t',Sh (.clx r0) t t':=fun t t'=>⟨fun j e=>(nomatch e),fun e=>(nomatch e)⟩
 refine ⟨by simp,fun x e=>(nomatch e),trivial,⟨fun _ y=>y.map (fgt (Q.glx r0)),fun _ y=>y,fun x=>x,fun x=>x⟩,fun _ y=>rfl,⟨fun _ _ _=>rfl,fun _=>⟨fun _=>rfl,fun _=>rfl⟩,fun _ _ _ e=>(nomatch e),fun j e=>(by rcases e with e | e <;> cases e),fun _ _ _ e=>(nomatch e)⟩,⟨fun j=>by rw [look_forget],fun _=>rfl,rfl,rfl⟩,hsh _ _,fun t hv=>?_⟩
 have k1:t.sg.set r0 [] = s.sg.set r0 [] := hv
 refine ⟨{ t with fr:=forget (Q.glx r0) t.fr },?_,⟨fun j=>by rw [look_forget],fun _=>rfl,rfl,rfl⟩,hsh _ _⟩
 have e:callrv OO f ds r0 t.sg=callrv OO f ds r0 s.sg:=by unfold callrv; rw [k1]
 simp only [e,h1,Option.map_some]
theorem loc_callr (OO:Or) (m:TypeId → String → Option FuncId) (f:FuncId) (xs:List X) (x:X) (dst:Option Nat):Loc (slotX x ++ xs.flatMap slotX) (tkX x ++ xs.flatMap tkX) (fun s=>evO OO m (.callr f xs x) s dst) :=
 loc_gen ((rd_rxv x).q.pair (rd_rxs xs).q) (G := fun p s => match p.1 with
     | .p r _=>(callrv OO f p.2 r s.sg).map fun d=>(.v d,{ s with fr:=forget (Q.glx r) s.fr },.clx r)
     | _=>none)
  (fun p=>by obtain ⟨d,ds⟩:=p; cases d <;> first | exact locg_callr OO _ _ _ | exact locg_none _)
  (fun s=>by
   simp only [evO]
   cases rxv x s with
   | none=>rfl
   | some p =>
    obtain ⟨d,s1⟩:=p
    simp only
    cases h2:rxs xs s1 with
    | none=>cases d <;> simp [h2]
    | some q=>obtain ⟨ds,s2⟩:=q; cases d <;> simp [h2])
theorem loc_callv (OO:Or) (m:TypeId → String → Option FuncId) (x:X) (xs:List X) (dst:Option Nat):Loc (slotX x ++ xs.flatMap slotX) (tkX x ++ xs.flatMap tkX) (fun s=>evO OO m (.callv x xs) s dst) :=
 loc_gen ((rd_rxv x).q.pair (rd_rxs xs).q) (G := fun p s => match p.1 with
     | .fn f cs=>(OO.call f (p.2 ++ cs) s.sg s.sg.length).map fun (d,sg,lo)=>(.v d,{ s with sg:=sg,lo:=min s.lo lo,fr:=forget Q.gl s.fr },.cl (D.beqs (sg.map .t) (s.sg.map .t) && decide (s.lo ≤ lo)))
     | _=>none)
  (fun p=>by obtain ⟨d,ds⟩:=p; cases d <;> first | exact locg_call OO _ _ | exact locg_none _)
  (fun s=>by
   simp only [evO]
   cases rxv x s with
   | none=>rfl
   | some p =>
    obtain ⟨d,s1⟩:=p
    simp only
    cases h2:rxs xs s1 with
    | none=>cases d <;> simp [h2]
    | some q=>obtain ⟨ds,s2⟩:=q; cases d <;> simp [h2])
theorem loc_inv (OO:Or) (m:TypeId → String → Option FuncId) (nm:String) (x:X) (xs:List X) (dst:Option Nat):Loc (slotX x ++ xs.flatMap slotX) (tkX x ++ xs.flatMap tkX) (fun s=>evO OO m (.inv nm x xs) s dst) :=
 loc_gen ((rd_rxv x).q.pair (rd_rxs xs).q) (G := fun p s => match p.1 with
     | .ic t v=>match m t nm with
      | some f=>(OO.call f (v :: p.2) s.sg s.sg.length).map fun (d,sg,lo)=>(.v d,{ s with sg:=sg,lo:=min s.lo lo,fr:=forget Q.gl s.fr },.cl (D.beqs (sg.map .t) (s.sg.map .t) && decide (s.lo ≤ lo)))
      | none=>none
     | _=>none)
  (fun p=>by
   obtain ⟨d,ds⟩:=p
   cases d <;> try exact locg_none _
   rename_i t v
   dsimp only
   cases m t nm <;> first | exact locg_call OO _ _ | exact locg_none _)
  (fun s=>by
   simp only [evO]
   cases rxv x s with
   | none=>rfl
   | some p =>
    obtain ⟨d,s1⟩:=p
    simp only
    cases h2:rxs xs s1 with
    | none => cases d <;> simp [h2]
              rename_i t v; cases m t nm <;> simp [h2]
    | some q => obtain ⟨ds, s2⟩ := q; cases d <;> simp [h2]
                rename_i t v; cases m t nm <;> simp [h2])
theorem locg_cpy (sz : Nat) (r : R) (v : D) : LocG (r.qs ++ []) (fun s => match v with
      | .l _ sz' ys=>match hpl r with
       | some (pl,_)=>match s.at pl with
        | some (.l .x sz'' xs) => if sz' = sz ∧ sz'' = sz then
            some (.v (.i .i64 (min ys.length xs.length)),{ s.setAt pl (.l .x sz (ys.take xs.length ++ xs.drop ys.length)) with lo:=s.loAt (.l .z sz ys) pl },pl.we)
         else none
        | _=>none
       | none=>none
      | _=>none):=by
 intro s r' s1 ac hs
 cases v with
 | l k sz' ys =>
  dsimp only at hs ⊢
  split at hs
  ·rename_i pl ac2 hp
   obtain ⟨q,e,hi,rfl⟩:=hpl_inv hp
   cases e
   split at hs
   ·rename_i sz'' xs hat
    split at hs
    ·rename_i hc
     cases hs
     have hlen:(ys.take xs.length ++ xs.drop ys.length).length=xs.length:=by simp; omega
     obtain ⟨rfl,rfl⟩:=hc
     obtain ⟨u,h1,h2,h3⟩:=el_step hat hlen (loF (.l .z sz'' ys) pl) (fun k off e=>by subst e; rfl)
     have hself:View pl.we s s:=by cases pl <;> first | exact rfl | exact ⟨rfl,rfl⟩
     obtain ⟨_,h4,h5⟩:=h3 s hself
     refine ⟨by simp [R.qs]; exact cov_we hi,fun x e=>(nomatch e),pre_we pl s,u,h1,h2,by rw [loAt_F]; exact h4,by rw [loAt_F]; exact h5,fun t hv=>?_⟩
     obtain ⟨k1,k2,k3⟩:=h3 t hv
     exact ⟨{ t.setAt pl (.l .x sz'' (ys.take xs.length ++ xs.drop ys.length)) with lo:=t.loAt (.l .z sz'' ys) pl },by simp [hp,k1],by rw [loAt_F]; exact k2,by rw [loAt_F]; exact k3⟩
    ·cases hs
   ·cases hs
  ·cases hs
 | _=>cases hs
theorem loc_cpy (OO:Or) (m:TypeId → String → Option FuncId) (sz:Nat) (x y:X) (dst:Option Nat):Loc (slotX x ++ slotX y) (tkX x ++ tkX y) (fun s=>evO OO m (.cpy sz x y) s dst) :=
 loc_gen ((rdq_rx x).pair (rd_rxv y).q) (fun p=>locg_cpy sz p.1 p.2)
  (fun s=>by
   simp only [evO]
   cases rx x s with
   | none=>rfl
   | some p =>
    obtain ⟨r,s1⟩:=p
    simp only
    cases h2:rxv y s1 with
    | none=>simp [h2]
    | some q=>obtain ⟨v,s2⟩:=q; cases v <;> simp only [h2]; rfl)
theorem locg_srt (OO : Or) (f g : FuncId) (r : R) : LocG r.qs (fun s => match hpl r with
      | some (pl,_)=>match s.at pl with
       | some (.l .x sz xs)=>match OO.srt f g sz xs with
        | some ys=>if ys.length=xs.length then some (.v (.t []),{ s.setAt pl (.l .x sz ys) with lo:=s.loAt (.l .z sz ys) pl },pl.we) else none
        | none=>none
       | _=>none
      | none=>none):=by
 intro s r' s1 ac hs
 dsimp only at hs ⊢
 split at hs
 ·rename_i pl ac2 hp
  obtain ⟨q,e,hi,rfl⟩:=hpl_inv hp
  cases e
  split at hs
  ·rename_i sz'' xs hat
   split at hs
   ·rename_i ys hy
    split at hs
    ·rename_i hlen
     cases hs
     obtain ⟨u,h1,h2,h3⟩:=el_step hat hlen (loF (.l .z sz'' ys) pl) (fun k off e=>by subst e; rfl)
     have hself:View pl.we s s:=by cases pl <;> first | exact rfl | exact ⟨rfl,rfl⟩
     obtain ⟨_,h4,h5⟩:=h3 s hself
     refine ⟨by simp [R.qs]; exact cov_we hi,fun x e=>(nomatch e),pre_we pl s,u,h1,h2,by rw [loAt_F]; exact h4,by rw [loAt_F]; exact h5,fun t hv=>?_⟩
     obtain ⟨k1,k2,k3⟩:=h3 t hv
     exact ⟨{ t.setAt pl (.l .x sz'' ys) with lo:=t.loAt (.l .z sz'' ys) pl },by simp [hp,k1,hy,hlen],by rw [loAt_F]; exact k2,by rw [loAt_F]; exact k3⟩
    ·cases hs
   ·cases hs
  ·cases hs
 ·cases hs
theorem loc_srt (OO:Or) (m:TypeId → String → Option FuncId) (f g:FuncId) (x:X) (dst:Option Nat):Loc (slotX x) (tkX x) (fun s=>evO OO m (.srt f g x) s dst) :=
 loc_gen (rdq_rx x) (fun p=>locg_srt OO f g p) (fun s=>by simp only [evO]; cases rx x s <;> rfl)
theorem loc_ex (OO:Or) (m:TypeId → String → Option FuncId) (tk:Bool) (n k:Nat) (dst:Option Nat):Loc [k] (if tk then [k] else []) (fun s=>evO OO m (.ex tk n k) s dst):=by
 intro s r s1 ac hs
 simp only [evO] at hs
 split at hs
 ·rename_i ds hk
  split at hs
  ·rename_i d hd
   cases tk with
   | true =>
    simp only [if_true] at hs
    cases hs
    have hap:∀ t:St,Ap ⟨fun j y=>if j=k then some (.v (.t (ds.set n .w))) else y,fun _ y=>y,fun x=>x,fun x=>x⟩ t { t with fr:=(k,.v (.t (ds.set n .w))) :: t.fr }:=by
     intro t
     refine ⟨fun j=>?_,fun _=>rfl,rfl,rfl⟩
     simp only [look_cons]
     by_cases e:k=j
     ·subst e; simp
     ·rw [if_neg e,if_neg (fun h=>e h.symm)]
    refine ⟨fun x e=>(nomatch e),trivial,_,?_,obok_id (fun _ _=>rfl) (fun _=>rfl) (fun _=>rfl) rfl rfl,hap s,sh_no rfl rfl,fun t hag hv=>?_⟩
    ·intro j
     by_cases e:j=k
     ·subst e
      exact .inr ⟨by simp,some (.v (.t (ds.set n .w))),fun y=>by simp,fun g'=>rfl⟩
     ·exact .inl (fun y=>by simp only [e,if_false]; exact fgt_no y)
    ·rcases hag k (by simp) with h | h | ⟨x,h,_⟩
     ·rw [hk] at h; cases h
     ·exact ⟨_,by simp only [evO,h,hk,hd,if_true],hap t,sh_no rfl rfl⟩
     ·rw [hk] at h; cases h
   | false =>
    simp only [Bool.false_eq_true,if_false,Option.map_eq_some_iff] at hs
    obtain ⟨e,he,e2⟩:=hs
    cases e2
    refine ⟨fun x e=>(nomatch e),trivial,up0,fun j=>.inl (fun y=>fgt_no y),obok_id (fun _ _=>rfl) (fun _=>rfl) (fun _=>rfl) rfl rfl,up0_ap s,sh_no rfl rfl,fun t hag hv=>?_⟩
    rcases hag k (by simp) with h | h | ⟨x,h,_⟩
    ·rw [hk] at h; cases h
    ·exact ⟨t,by simp only [evO,h,hk,hd,Bool.false_eq_true,if_false,he,Option.map_some],up0_ap t,sh_no rfl rfl⟩
    ·rw [hk] at h; cases h
  ·cases hs
 ·cases hs
theorem locg_mkm:LocG [] (fun s=>some (.v (.mo s.sg.length),{ s with sg:=s.sg ++ [[.u]] },.ag)):=by
 intro s r s1 ac hs
 cases hs
 have hsh:∀ t t',Sh .ag t t':=fun t t'=>⟨fun j e=>(nomatch e),fun e=>(nomatch e)⟩
 refine ⟨by simp,fun x e=>(nomatch e),trivial,⟨fun _ y=>y,fun _ y=>y,fun _=>s.sg ++ [[.u]],fun x=>x⟩,fun _ y=>fgt_no y,⟨fun _ _ _=>rfl,fun e=>(nomatch e),fun _ _ _ e=>(nomatch e),fun j e=>(by rcases e with e | e <;> cases e),fun _ _ _ e=>(nomatch e)⟩,⟨fun _=>rfl,fun _=>rfl,rfl,rfl⟩,hsh _ _,fun t hv=>?_⟩
 obtain ⟨h1,h2⟩:t.sg=s.sg ∧ t.lo=s.lo:=hv
 exact ⟨{ t with sg:=t.sg ++ [[.u]] },by dsimp only; rw [h1],⟨fun _=>rfl,fun _=>rfl,by rw [h1],rfl⟩,hsh _ _⟩
theorem loc_mkm (OO:Or) (m:TypeId → String → Option FuncId) (dst:Option Nat):Loc [] [] (fun s=>evO OO m .mkm s dst) :=
 loc_gen (Rdq.nil () (fun _=>[])) (G:=fun _ s=>some (.v (.mo s.sg.length),{ s with sg:=s.sg ++ [[.u]] },.ag)) (fun _=>locg_mkm) (fun s=>rfl)
theorem locg_mlk (ok str:Bool) (z m k:D):LocG [] (mlkv ok str z m k):=by
 refine locg_read (fun s r s1 ac hs=>?_)
 unfold mlkv at hs
 split at hs
 ·rename_i r0
  split at hs
  ·rename_i es he
   simp only [Option.map_eq_some_iff] at hs
   obtain ⟨v,h1,h2⟩:=hs
   cases h2
   refine ⟨rfl,rfl,rfl,rfl,by simp,fun x e=>(nomatch e),fun t hv=>?_⟩
   obtain ⟨k1,_⟩:t.sg=s.sg ∧ t.lo=s.lo:=hv
   simp only [mlkv,k1,he,h1,Option.map_some]
  ·cases hs
 ·cases hs
theorem loc_mlk (OO:Or) (m:TypeId → String → Option FuncId) (ok str:Bool) (z:D) (x y:X) (dst:Option Nat):Loc (slotX x ++ slotX y) (tkX x ++ tkX y) (fun s=>evO OO m (.mlk ok str z x y) s dst) :=
 loc_gen ((rd_rxv x).q.pair (rd_rxv y).q) (G:=fun p s=>mlkv ok str z p.1 p.2 s) (fun p=>locg_mlk ok str z p.1 p.2)
  (fun s=>by
   simp only [evO]
   cases rxv x s with
   | none=>rfl
   | some p =>
    obtain ⟨d,s1⟩:=p
    simp only
    cases h2:rxv y s1 with
    | none=>simp [h2]
    | some q=>simp [h2])
theorem locg_mln (m:D):LocG [] (mlnv m):=by
 refine locg_read (fun s r s1 ac hs=>?_)
 unfold mlnv at hs
 split at hs
 ·rename_i r0
  split at hs
  ·rename_i es he
   cases hs
   refine ⟨rfl,rfl,rfl,rfl,by simp,fun x e=>(nomatch e),fun t hv=>?_⟩
   obtain ⟨k1,_⟩:t.sg=s.sg ∧ t.lo=s.lo:=hv
   simp only [mlnv,k1,he]
  ·cases hs
 ·cases hs
theorem loc_mln (OO:Or) (m:TypeId → String → Option FuncId) (x:X) (dst:Option Nat):Loc (slotX x) (tkX x) (fun s=>evO OO m (.mln x) s dst) :=
 loc_gen ((rd_rxv x).q) (G:=fun d s=>mlnv d s) (fun d=>locg_mln d) (fun s=>by simp only [evO]; cases rxv x s <;> rfl)
theorem locg_mup (str:Bool) (m k d:D):LocG [] (mupv str m k d):=by
 intro s r' s1 ac hs
 unfold mupv at hs
 split at hs
 ·rename_i r0
  split at hs
  ·rename_i k' d' hk hd
   split at hs
   ·rename_i es he
    simp only [Option.map_eq_some_iff] at hs
    obtain ⟨es',h1,h2⟩:=hs
    cases h2
    have hsh:∀ t t',Sh .ag t t':=fun t t'=>⟨fun j e=>(nomatch e),fun e=>(nomatch e)⟩
    refine ⟨by simp,fun x e=>(nomatch e),trivial,⟨fun _ y=>y,fun _ y=>y,fun x=>x.set r0 (.u :: es'),fun x=>if D.nr 0 d' then x else min x r0⟩,fun _ y=>fgt_no y,⟨fun _ _ _=>rfl,fun e=>(nomatch e),fun _ _ _ e=>(nomatch e),fun j e=>(by rcases e with e | e <;> cases e),fun _ _ _ e=>(nomatch e)⟩,⟨fun _=>rfl,fun _=>rfl,rfl,rfl⟩,hsh _ _,fun t hv=>?_⟩
    obtain ⟨k1,k2⟩:t.sg=s.sg ∧ t.lo=s.lo:=hv
    exact ⟨{ t with sg:=t.sg.set r0 (.u :: es'),lo:=if D.nr 0 d' then t.lo else min t.lo r0 },by simp only [mupv,hk,hd,k1,he,h1,Option.map_some],⟨fun _=>rfl,fun _=>rfl,rfl,rfl⟩,hsh _ _⟩
   ·cases hs
  ·cases hs
 ·cases hs
theorem loc_mup (OO:Or) (m:TypeId → String → Option FuncId) (str:Bool) (x y v:X) (dst:Option Nat):Loc (slotX x ++ (slotX y ++ slotX v)) (tkX x ++ (tkX y ++ tkX v)) (fun s=>evO OO m (.mup str x y v) s dst) :=
 loc_gen ((rd_rxv x).q.pair ((rd_rxv y).q.pair (rd_rxv v).q)) (G:=fun p s=>mupv str p.1 p.2.1 p.2.2 s) (fun p=>locg_mup str p.1 p.2.1 p.2.2)
  (fun s=>by
   simp only [evO]
   cases rxv x s with
   | none=>rfl
   | some p =>
    obtain ⟨d,s1⟩:=p
    simp only
    cases h2:rxv y s1 with
    | none=>simp [h2]
    | some q =>
     obtain ⟨k,s2⟩:=q
     cases h3:rxv v s2 with
     | none=>simp [h2,h3]
     | some q=>simp [h2,h3])
theorem loc_all (OO:Or) (m:TypeId → String → Option FuncId) (o:O) (dst:Option Nat):Loc (slotsO o) (tksO o) (fun s=>evO OO m o s dst):=by
 by_cases hp:isPure o=true
 ·exact loc_pures OO m o dst hp
 ·cases o <;> simp only [isPure,not_true_eq_false,Bool.false_eq_true,not_false_eq_true] at hp
  ·exact loc_mv OO m _ _
  ·exact loc_al OO m _ _
  ·exact loc_ag OO m _ _
  ·exact loc_bx OO m _ _
  ·exact loc_bg OO m _ _
  ·exact loc_ld OO m _ _ _ _ _
  ·exact loc_lda OO m _ _ _
  ·exact loc_st OO m _ _ _ _
  ·exact loc_nc OO m _ _
  ·exact loc_fa OO m _ _ _
  ·exact loc_ia OO m _ _ _ _ _
  ·exact loc_ex OO m _ _ _ _
  ·exact loc_len OO m _ _ _
  ·exact loc_app OO m _ _ _ _ _
  ·exact loc_cpy OO m _ _ _ _
  ·exact loc_srt OO m _ _ _ _
  ·exact loc_call OO m _ _ _
  ·exact loc_callr OO m _ _ _ _
  ·exact loc_callv OO m _ _ _
  ·exact loc_inv OO m _ _ _ _
  ·exact loc_mkm OO m _
  ·exact loc_mlk OO m _ _ _ _ _ _
  ·exact loc_mup OO m _ _ _ _ _
  ·exact loc_mln OO m _ _
end Go.AM

namespace Go.AM
structure Eqv (s t:St):Prop where
 fr:∀ k,look k t.fr=look k s.fr
 ob:∀ k,look k t.ob=look k s.ob
 sg:t.sg=s.sg
 lo:t.lo=s.lo
theorem Eqv.refl (s:St):Eqv s s:=⟨fun _=>rfl,fun _=>rfl,rfl,rfl⟩
theorem Eqv.trans {s t r:St} (h:Eqv s t) (k:Eqv t r):Eqv s r:=⟨fun j=>(k.fr j).trans (h.fr j),fun j=>(k.ob j).trans (h.ob j),k.sg.trans h.sg,k.lo.trans h.lo⟩
theorem Eqv.symm {s t:St} (h:Eqv s t):Eqv t s:=⟨fun j=>(h.fr j).symm,fun j=>(h.ob j).symm,h.sg.symm,h.lo.symm⟩
theorem Ac.ok2.symm {a b:Ac} (h:a.ok2 b):b.ok2 a:=Or.symm h
def FrI (i:I) (ac:Ac) (u:Up):Prop :=
 ∀ k,(i.dst=some k ∧ ∃ c,(∀ y,u.fr k y=some c) ∧ ∀ x,c=.q x → Cov ac x) ∨
  (i.dst ≠ some k ∧ ((∀ y,u.fr k y=y.map (fgt ac.fg)) ∨ (k ∈ tksO i.op ∧ ∃ c,(∀ y,u.fr k y=c) ∧ ∀ g',c.map (fgt g')=c)))
theorem fo_q {b:Nat} {r:R} {x:Q} (h:fzR b r=.q x):r=.q x:=by
 match b,r,h with
 | 0,_,h=>exact h
 | 1,.v _,h=>cases h
 | 1,.q _,h=>exact h
 | _ + 2,.v _,h=>cases h
 | _ + 2,.q _,h=>exact h
theorem wants_loc {L ac s t g v} (h:wants s g=some v) (hag:Agr L ac s t) (hL:∀ k b,g=some (k,b) → k ∈ L):wants t g=some v:=by
 unfold wants at h ⊢
 split at h
 ·exact h
 ·rename_i k b
  have hk:=hL k b rfl
  split at h
  ·rename_i x hx
   rcases hag k hk with e | e | ⟨y,e,_⟩
   ·rw [hx] at e; cases e
   ·rw [e,hx]; exact h
   ·rw [hx] at e; cases e
  ·rename_i hx
   rcases hag k hk with e | e | ⟨y,e,_⟩
   ·rw [hx] at e; cases e
   ·rw [e,hx]; exact h
   ·rw [hx] at e; cases e
  ·cases h
def Up.putr (u:Up) (dst:Option Nat) (r:R):Up:={ u with fr:=fun k y=>if dst=some k then some r else u.fr k y }
theorem Ap.putr {u:Up} {s t:St} (h:Ap u s t) (dst:Option Nat) (r:R):Ap (u.putr dst r) s (t.put dst r):=by
 cases dst with
 | none=>exact ⟨fun k=>by simpa [Up.putr,St.put] using h.fr k,h.ob,h.sg,h.lo⟩
 | some d =>
  refine ⟨fun k=>?_,h.ob,h.sg,h.lo⟩
  simp only [St.put,look_cons,Up.putr,Option.some.injEq]
  by_cases e:d=k
  ·rw [if_pos e,if_pos e]
  ·rw [if_neg e,if_neg e]; exact h.fr k
theorem putr_ob {u:Up} {ac:Ac} (h:ObOK ac u) (dst:Option Nat) (r:R):ObOK ac (u.putr dst r):=⟨h.ob,h.sg,h.wl,h.wk,h.wg⟩
theorem Sh.put {ac s t} (h:Sh ac s t) (dst:Option Nat) (r:R):Sh ac s (t.put dst r):=by
 cases dst <;> exact h
theorem loc_i (E : En) (OO : Or) (i : I) {s s1 ac} (h : evI E OO i s = some (s1, ac)) :
    Pre ac s ∧ ∃ u,FrI i ac u ∧ ObOK ac u ∧ Ap u s s1 ∧ Sh ac s s1 ∧ ∀ t,Agr i.looks ac s t → View ac s t → ∃ t1,evI E OO i t=some (t1,ac) ∧ Ap u t t1 ∧ Sh ac t t1:=by
 have hL:∀ k b,i.gd=some (k,b) → k ∈ i.looks:=fun k b e=>by simp [I.looks,e]
 unfold evI at h
 split at h
 ·cases h
 ·rename_i hw
  simp only [Option.map_eq_some_iff] at h
  obtain ⟨⟨r,s2,ac2⟩,h1,h2⟩:=h
  cases h2
  obtain ⟨hq,hp,u,hu,ho,ha,hs,hv⟩:=loc_all OO E.meth i.op i.dst s r s2 ac2 h1
  refine ⟨hp,u.putr i.dst (fzR i.fz r),?_,putr_ob ho _ _,ha.putr _ _,hs.put _ _,fun t hag hvw=>?_⟩
  ·intro k
   by_cases e:i.dst=some k
   ·exact .inl ⟨e,(fzR i.fz r),fun y=>by simp [Up.putr,e],fun x hx=>hq x (fo_q hx)⟩
   ·refine .inr ⟨e,?_⟩
    rcases hu k with h | ⟨hk,c,h1,h2⟩
    ·exact .inl (fun y=>by simp [Up.putr,e,h])
    ·exact .inr ⟨hk,c,fun y=>by simp [Up.putr,e,h1],h2⟩
  ·obtain ⟨t1,k1,k2,k3⟩:=hv t (hag.sub (fun k hk=>by simp [I.looks,hk])) hvw
   refine ⟨t1.put i.dst (fzR i.fz r),?_,k2.putr _ _,k3.put _ _⟩
   unfold evI
   rw [wants_loc hw hag hL]
   simp only [k1,Option.map_some]
 ·rename_i hw
  cases h
  refine ⟨trivial,up0.putr i.dst (.v .u),?_,putr_ob (obok_id (fun _ _=>rfl) (fun _=>rfl) (fun _=>rfl) rfl rfl) _ _,(up0_ap s).putr _ _,(sh_no rfl rfl).put _ _,fun t hag hvw=>?_⟩
  ·intro k
   by_cases e:i.dst=some k
   ·exact .inl ⟨e,.v .u,fun y=>by simp [Up.putr,e],fun x hx=>nomatch hx⟩
   ·exact .inr ⟨e,.inl (fun y=>by simp only [Up.putr,e,if_false]; exact fgt_no y)⟩
  ·refine ⟨t.put i.dst (.v .u),?_,(up0_ap t).putr _ _,(sh_no rfl rfl).put _ _⟩
   unfold evI
   rw [wants_loc hw hag hL]
theorem ovr_comm {cs a b:List D} {o p:Nat} (h:o + a.length ≤ p ∨ p + b.length ≤ o) (ha:o + a.length ≤ cs.length) (hb:p + b.length ≤ cs.length):ovr (ovr cs o a) p b=ovr (ovr cs p b) o a:=by
 apply List.ext_getElem?
 intro j
 have l1:=ovr_len (cs:=cs) ha
 have l2:=ovr_len (cs:=cs) hb
 have inn:∀ (cs:List D) (o:Nat) (a:List D) (j:Nat),o + a.length ≤ cs.length → o ≤ j → j < o + a.length → (ovr cs o a)[j]? = a[j - o]? := by
  intro cs o a j hl h1 h2
  unfold ovr
  rw [List.append_assoc,List.getElem?_append_right (by simp; omega),List.getElem?_append_left (by simp; omega)]
  congr 1; simp; omega
 by_cases h1:o ≤ j ∧ j < o + a.length
 ·rw [ovr_get (by omega) (by omega),inn cs o a j ha h1.1 h1.2,inn _ o a j (by omega) h1.1 h1.2]
 ·by_cases h2:p ≤ j ∧ j < p + b.length
  ·rw [inn _ p b j (by omega) h2.1 h2.2,ovr_get (by omega) (by omega),inn cs p b j hb h2.1 h2.2]
  ·rw [ovr_get (by omega) (by omega),ovr_get (by omega) (by omega),ovr_get (by omega) (by omega),ovr_get (by omega) (by omega)]
theorem fgt_comm (g h:Q → Bool) (y:Option R):(y.map (fgt g)).map (fgt h)=(y.map (fgt h)).map (fgt g):=by
 cases y with
 | none=>rfl
 | some r =>
  cases r with
  | v d=>rfl
  | q x=>by_cases e:g x <;> by_cases e':h x <;> simp [fgt,e,e']
theorem disj_spec {a b:List Nat} (h:disj a b=true):∀ k ∈ a,k ∉ b:=by
 intro k hk hb
 simp only [disj,List.all_eq_true] at h
 have:=h k hk
 simp [hb] at this
structure Apart (i j:I):Prop where
 d1:∀ k,i.dst=some k → k ∉ j.looks ∧ j.dst ≠ some k
 d2:∀ k,j.dst=some k → k ∉ i.looks
 t1:∀ k ∈ tksO i.op,k ∉ tksO j.op ∧ k ∉ j.looks ∧ j.dst ≠ some k
 t2:∀ k ∈ tksO j.op,k ∉ i.looks ∧ i.dst ≠ some k
theorem apart_spec {i j:I} (h:i.apart j=true):Apart i j:=by
 simp only [I.apart,Bool.and_eq_true] at h
 obtain ⟨⟨⟨⟨⟨h1,h2⟩,h3⟩,h4⟩,h5⟩,h6⟩:=h
 refine ⟨fun k e=>?_,fun k e=>?_,fun k hk=>?_,fun k hk=>?_⟩
 ·rw [e] at h1; simp at h1; exact ⟨by simpa using h1.1,h1.2⟩
 ·rw [e] at h2; simpa using h2
 ·have a:=disj_spec h3 k hk
  have b:=disj_spec h5 k hk
  simp only [List.mem_append,not_or] at a
  exact ⟨a.1,a.2,fun e=>b (by rw [e]; simp)⟩
 ·have a:=disj_spec h4 k hk
  have b:=disj_spec h6 k hk
  simp only [List.mem_append,not_or] at a
  exact ⟨a.2,fun e=>b (by rw [e]; simp)⟩
theorem swap {E : En} {OO : Or} {i j : I} {s s1 s2 ai aj} (h1 : evI E OO i s = some (s1, ai)) (h2 : evI E OO j s1 = some (s2, aj)) (hok : ai.ok2 aj) (hap : Apart i j) :
    ∃ t1,evI E OO j s=some (t1,aj) ∧ ∃ t2,evI E OO i t1=some (t2,ai) ∧ Eqv s2 t2:=by
 obtain ⟨pi,ui,fi,oi,api,shi,vi⟩:=loc_i E OO i h1
 obtain ⟨pj,uj,fj,oj,apj,shj,vj⟩:=loc_i E OO j h2
 have hv1:=view_of hok oi api shi pi
 have ag1:Agr j.looks aj s1 s:=by
  intro k hk
  rcases fi k with ⟨e,_⟩ | ⟨e,h | ⟨ht,_⟩⟩
  ·exact absurd hk (hap.d1 k e).1
  ·have:=api.fr k
   rw [h] at this
   cases e2:look k s.fr with
   | none=>rw [e2] at this; exact .inr (.inl this.symm)
   | some r =>
    rw [e2] at this
    cases r with
    | v d=>exact .inr (.inl this.symm)
    | q x =>
     simp only [Option.map_some,fgt] at this
     by_cases hg:ai.fg x=true
     ·rw [if_pos hg] at this; exact .inl this
     ·rw [if_neg hg] at this; exact .inr (.inl this.symm)
  ·exact absurd hk (hap.t1 k ht).2.1
 obtain ⟨t1,k1,k2,k3⟩:=vj s ag1 hv1.2
 obtain ⟨pj',_⟩:=loc_i E OO j k1
 have hv2:=view_of hok.symm oj k2 k3 pj'
 have ag2:Agr i.looks ai s t1:=by
  intro k hk
  rcases fj k with ⟨e,_⟩ | ⟨e,h | ⟨ht,_⟩⟩
  ·exact absurd hk (hap.d2 k e)
  ·have:=k2.fr k
   rw [h] at this
   cases e2:look k s.fr with
   | none=>rw [e2] at this; exact .inr (.inl this)
   | some r =>
    rw [e2] at this
    cases r with
    | v d=>exact .inr (.inl this)
    | q x =>
     simp only [Option.map_some,fgt] at this
     by_cases hg:aj.fg x=true
     ·refine .inr (.inr ⟨x,rfl,fun hc=>?_⟩)
      rw [hc aj hok] at hg; cases hg
     ·rw [if_neg hg] at this; exact .inr (.inl this)
  ·exact absurd hk (hap.t2 k ht).1
 obtain ⟨t2,l1,l2,l3⟩:=vi t1 ag2 hv2.1
 refine ⟨t1,k1,t2,l1,?_,?_,?_,?_⟩
 ·intro k
  rw [l2.fr,k2.fr,apj.fr,api.fr]
  rcases fi k with ⟨e,c,hc,hq⟩ | ⟨e,h⟩
  ·obtain ⟨e1,e2⟩:=hap.d1 k e
   rcases fj k with ⟨e3,_⟩ | ⟨_,h | ⟨ht,_⟩⟩
   ·exact absurd e3 e2
   ·rw [hc,hc,h]
    cases c with
    | v d=>rfl
    | q x=>simp [fgt,hq x rfl aj hok]
   ·exact absurd e (hap.t2 k ht).2
  ·rcases fj k with ⟨e3,c,hc,hq⟩ | ⟨e3,h'⟩
   ·rcases h with h | ⟨ht,_⟩
    ·rw [hc,hc,h]
     cases c with
     | v d=>rfl
     | q x=>simp [fgt,hq x rfl ai hok.symm]
    ·exact absurd e3 (hap.t1 k ht).2.2
   ·rcases h with h | ⟨ht,c,hc,hs⟩
    ·rcases h' with h' | ⟨ht,c,hc,hs⟩
     ·rw [h,h,h',h']; exact (fgt_comm _ _ _)
     ·rw [hc,hc,h,hs]
    ·rcases h' with h' | ⟨ht',_⟩
     ·rw [hc,hc,h',hs]
     ·exact absurd ht' (hap.t1 k ht).1
 ·intro k
  rw [l2.ob,k2.ob,apj.ob,api.ob]
  by_cases wi:ai.wob=some k
  ·by_cases wj:aj.wob=some k
   ·cases ai <;> simp [Ac.wob] at wi <;> subst wi <;> cases aj <;> simp [Ac.wob] at wj <;> subst wj <;> simp [Ac.ok2,Ac.ok] at hok
    rename_i o n p m
    obtain ⟨a,ha,hua⟩:=oi.wl _ _ _ rfl
    obtain ⟨b,hb,hub⟩:=oj.wl _ _ _ rfl
    obtain ⟨cs,hcs,hbd⟩:=pi
    obtain ⟨cs',hcs',hbd'⟩:=pj'
    rw [hcs] at hcs'; cases hcs'
    rw [hua,hub,hua,hub,hcs]
    simp only [Option.map_some]
    rw [ovr_comm (by omega) (by omega) (by omega)]
   ·rw [oj.ob k wj,oj.ob k wj]
  ·rw [oi.ob k wi,oi.ob k wi]
 ·rw [l2.sg,k2.sg,apj.sg,api.sg]
  cases wi:ai.wsg with
  | false=>rw [(oi.sg wi).1,(oi.sg wi).1]
  | true =>
   cases wj:aj.wsg with
   | false=>rw [(oj.sg wj).1,(oj.sg wj).1]
   | true =>
    cases ai <;> simp [Ac.wsg] at wi <;> cases aj <;> simp [Ac.wsg] at wj <;> simp [Ac.ok2,Ac.ok] at hok
    rename_i r o n r' p m _
    obtain ⟨⟨a,ha,hua⟩,_⟩:=oi.wg _ _ _ rfl
    obtain ⟨⟨b,hb,hub⟩,_⟩:=oj.wg _ _ _ rfl
    obtain ⟨cs,hcs,hbd⟩:=pi
    obtain ⟨cs',hcs',hbd'⟩:=pj'
    rw [hua,hub,hua,hub]
    apply List.ext_getElem?
    intro q
    by_cases er:r=r'
    ·subst er
     rw [hcs] at hcs'; cases hcs'
     by_cases eq:r=q
     ·subst eq
      rw [List.getElem?_modify_eq,List.getElem?_modify_eq,List.getElem?_modify_eq,List.getElem?_modify_eq,hcs]
      exact congrArg some (ovr_comm (by omega) (by omega) (by omega))
     ·rw [List.getElem?_modify_ne _ _ eq,List.getElem?_modify_ne _ _ eq,List.getElem?_modify_ne _ _ eq,List.getElem?_modify_ne _ _ eq]
    ·by_cases eq:r=q
     ·subst eq
      rw [List.getElem?_modify_eq,List.getElem?_modify_ne _ _ (fun e=>er e.symm),List.getElem?_modify_ne _ _ (fun e=>er e.symm),List.getElem?_modify_eq]
     ·rw [List.getElem?_modify_ne _ _ eq]
      by_cases eq':r'=q
      ·subst eq'
       rw [List.getElem?_modify_eq,List.getElem?_modify_eq,List.getElem?_modify_ne _ _ eq]
      ·rw [List.getElem?_modify_ne _ _ eq',List.getElem?_modify_ne _ _ eq',List.getElem?_modify_ne _ _ eq]
 ·rw [l2.lo,k2.lo,apj.lo,api.lo]
  cases wi:ai.wsg with
  | false=>rw [(oi.sg wi).2,(oi.sg wi).2]
  | true =>
   cases wj:aj.wsg with
   | false=>rw [(oj.sg wj).2,(oj.sg wj).2]
   | true =>
    cases ai <;> simp [Ac.wsg] at wi <;> cases aj <;> simp [Ac.wsg] at wj <;> simp [Ac.ok2,Ac.ok] at hok
    obtain ⟨_,ha⟩:=oi.wg _ _ _ rfl
    obtain ⟨_,hb⟩:=oj.wg _ _ _ rfl
    rcases ha with ha | ⟨m1,ha⟩ <;> rcases hb with hb | ⟨m2,hb⟩ <;> simp only [ha,hb] <;> omega
theorem View.of_eqv {ac:Ac} {s t:St} (h:Eqv s t):View ac s t:=by
 cases ac with
 | no | wk=>exact trivial
 | rl k o n | wl k o n=>exact fun cs hcs=>⟨cs,(h.ob k).trans hcs,rfl,fun _ _ _=>rfl⟩
 | rb k=>exact fun cs hcs=>⟨cs,(h.ob k).trans hcs,.refl _⟩
 | re k | we k=>exact h.ob k
 | rg r o n | wg r o n=>exact fun cs hcs=>⟨cs,by rw [h.sg]; exact hcs,rfl,fun _ _ _=>rfl⟩
 | rgb _=>exact fun r cs hcs=>⟨cs,by rw [h.sg]; exact hcs,.refl _⟩
 | reg | weg | ag | cl=>exact ⟨h.sg,h.lo⟩
 | clx r=>exact by rw [View,h.sg]
theorem evI_eqv {E:En} {OO:Or} {i:I} {s s1 t ac} (h:evI E OO i s=some (s1,ac)) (he:Eqv s t):∃ t1,evI E OO i t=some (t1,ac) ∧ Eqv s1 t1:=by
 obtain ⟨_,u,_,_,ha,_,hv⟩:=loc_i E OO i h
 obtain ⟨t1,k1,k2,_⟩:=hv t (fun k _=>.inr (.inl (he.fr k))) (.of_eqv he)
 exact ⟨t1,k1,fun k=>by rw [k2.fr,ha.fr,he.fr],fun k=>by rw [k2.ob,ha.ob,he.ob],by rw [k2.sg,ha.sg,he.sg],by rw [k2.lo,ha.lo,he.lo]⟩
def Run (E:En) (OO:Or):List (Nat × I × Ac) → St → St → Prop
 | [],s,s'=>Eqv s s'
 | (_,i,ac) :: r,s,s'=>∃ s1,evI E OO i s=some (s1,ac) ∧ Run E OO r s1 s'
theorem Run.eqv {E:En} {OO:Or}:∀ {l:List (Nat × I × Ac)} {s t s'},Run E OO l s s' → Eqv s t → Run E OO l t s'
 | [],s,t,s',h,he=>he.symm.trans h
 | (_,i,ac) :: r,s,t,s',h,he=>by
  obtain ⟨s1,h1,h2⟩:=h
  obtain ⟨t1,k1,k2⟩:=evI_eqv h1 he
  exact ⟨t1,k1,Run.eqv h2 k2⟩
theorem ex_ev {E : En} {OO : Or} {i : I} {tk n k d} (ho : i.op = .ex tk n k) (hd : i.dst = some d) (hg : i.gd = none) (s s1 : St) (ac : Ac) :
    evI E OO i s=some (s1,ac) ↔ ∃ ds x e,look k s.fr=some (.v (.t ds)) ∧ ds[n]? = some x ∧ (if tk then some x else x.cp)=some e ∧ ac=.no ∧
     s1={ s with fr:=(d,fzR i.fz (.v e)) :: (if tk then (k,R.v (.t (ds.set n .w))) :: s.fr else s.fr) }:=by
 unfold evI
 simp only [wants,hg,ho,evO,hd]
 constructor
 ·intro h
  split at h
  ·rename_i ds e1
   split at h
   ·rename_i x e2
    cases tk with
    | true =>
     simp only [if_true,Option.map_some,Option.some.injEq,Prod.mk.injEq] at h
     exact ⟨ds,x,x,e1,e2,rfl,h.2.symm,by rw [← h.1]; simp [St.put]⟩
    | false =>
     simp only [Bool.false_eq_true,if_false,Option.map_map,Option.map_eq_some_iff] at h
     obtain ⟨e,e3,e4⟩:=h
     simp only [Function.comp,Prod.mk.injEq] at e4
     exact ⟨ds,x,e,e1,e2,e3,e4.2.symm,by rw [← e4.1]; simp [St.put]⟩
   ·cases h
  ·cases h
 ·rintro ⟨ds,x,e,e1,e2,e3,rfl,rfl⟩
  cases tk with
  | true =>
   simp only [if_true,Option.some.injEq] at e3
   subst e3
   simp [e1,e2,St.put]
  | false =>
   simp only [Bool.false_eq_true,if_false] at e3
   simp [e1,e2,e3,St.put]
def Exs (i j:I):Prop:=∃ ti n tj m k d e,i.op=.ex ti n k ∧ j.op=.ex tj m k ∧ i.dst=some d ∧ j.dst=some e ∧ i.gd=none ∧ j.gd=none ∧ n ≠ m ∧ d ≠ k ∧ e ≠ k ∧ d ≠ e
theorem swap_ex {E : En} {OO : Or} {i j : I} {s s1 s2 ai aj} (h1 : evI E OO i s = some (s1, ai)) (h2 : evI E OO j s1 = some (s2, aj)) (h : Exs i j) :
    ∃ t1,evI E OO j s=some (t1,aj) ∧ ∃ t2,evI E OO i t1=some (t2,ai) ∧ Eqv s2 t2:=by
 obtain ⟨ti,n,tj,m,k,d,e,o1,o2,d1,d2,g1,g2,hnm,hdk,hek,hde⟩:=h
 obtain ⟨ds,x,v,e1,e2,e3,rfl,rfl⟩:=(ex_ev o1 d1 g1 _ _ _).1 h1
 obtain ⟨ds2,y,uu,f1,f2,f3,rfl,rfl⟩:=(ex_ev o2 d2 g2 _ _ _).1 h2
 have hmn:m ≠ n:=fun h=>hnm h.symm
 have hds:ds2=if ti then ds.set n .w else ds:=by
  cases ti <;> simp [look,hdk,e1] at f1 <;> simp [f1]
 have f2':ds[m]? = some y:=by
  rw [hds] at f2
  cases ti
  ·simpa using f2
  ·simpa [List.getElem?_set,hnm] using f2
 refine ⟨_,(ex_ev o2 d2 g2 _ _ _).2 ⟨ds,y,uu,e1,f2',f3,rfl,rfl⟩,_,(ex_ev o1 d1 g1 _ _ _).2 ⟨if tj then ds.set m .w else ds,x,v,?_,?_,e3,rfl,rfl⟩,?_,fun _=>rfl,rfl,rfl⟩
 ·cases tj <;> simp [look,hek,e1]
 ·cases tj
  ·simpa using e2
  ·simpa [List.getElem?_set,hmn] using e2
 ·intro z
  subst hds
  have hed:¬ e=d:=fun h=>hde h.symm
  have hke:¬ k=e:=fun h=>hek h.symm
  have hkd:¬ k=d:=fun h=>hdk h.symm
  by_cases z1:d=z
  ·subst z1
   cases ti <;> cases tj <;> simp [look,hde,hdk,hed,hke,hkd]
  ·by_cases z2:e=z
   ·subst z2
    cases ti <;> cases tj <;> simp [look,z1,hde,hed,hke,hkd]
   ·by_cases z3:k=z
    ·subst z3
     cases ti <;> cases tj <;> simp [look,z1,z2,List.set_comm,hnm,hmn]
    ·cases ti <;> cases tj <;> simp [look,z1,z2,z3]
def Apart2 (i j:I):Prop:=Apart i j ∨ Exs i j
theorem apart2_spec {i j:I} (h:i.apart2 j=true):Apart2 i j:=by
 simp only [I.apart2,Bool.or_eq_true] at h
 rcases h with h | h
 ·exact .inl (apart_spec h)
 ·right
  unfold I.exes at h
  split at h
  ·rename_i ti n k tj m k' d e o1 o2 d1 d2 g1 g2
   simp only [Bool.and_eq_true,beq_iff_eq,bne_iff_ne] at h
   obtain ⟨⟨⟨⟨rfl,h1⟩,h2⟩,h3⟩,h4⟩:=h
   exact ⟨ti,n,tj,m,_,d,e,o1,o2,d1,d2,g1,g2,h1,h2,h3,h4⟩
  ·cases h
theorem swap2 {E : En} {OO : Or} {i j : I} {s s1 s2 ai aj} (h1 : evI E OO i s = some (s1, ai)) (h2 : evI E OO j s1 = some (s2, aj)) (hok : ai.ok2 aj) (hap : Apart2 i j) :
    ∃ t1,evI E OO j s=some (t1,aj) ∧ ∃ t2,evI E OO i t1=some (t2,ai) ∧ Eqv s2 t2:=by
 rcases hap with h | h
 ·exact swap h1 h2 hok h
 ·exact swap_ex h1 h2 h
theorem Run.front {E : En} {OO : Or} {x : Nat × I × Ac} {q : List (Nat × I × Ac)} : ∀ {p : List (Nat × I × Ac)} {s s'}, Run E OO (p ++ x :: q) s s' →
    (∀ y ∈ p,y.2.2.ok2 x.2.2 ∧ Apart2 y.2.1 x.2.1) → ∃ s1,evI E OO x.2.1 s=some (s1,x.2.2) ∧ Run E OO (p ++ q) s1 s'
 | [],s,s',h,_=>by obtain ⟨n,i,ac⟩:=x; exact h
 | (m,j,aj) :: p,s,s',h,hp=>by
  obtain ⟨s1,h1,h2⟩:=h
  obtain ⟨s2,h3,h4⟩:=Run.front h2 (fun y hy=>hp y (by simp [hy]))
  obtain ⟨hok,hap⟩:=hp (m,j,aj) (by simp)
  obtain ⟨t1,k1,t2,k2,k3⟩:=swap2 h1 h3 hok hap
  exact ⟨t1,k1,t2,k2,h4.eqv k3⟩
def Two (an:List Nat):List (Nat × I × Ac) → Prop
 | [] => True
 | x :: r=>(∀ y ∈ r,(an.getD y.1 0).testBit x.1=true ∨ (x.2.2.ok2 y.2.2 ∧ Apart2 x.2.1 y.2.1)) ∧ Two an r
theorem Two.drop {an:List Nat} {x:Nat × I × Ac} {q:List (Nat × I × Ac)}:∀ {p:List (Nat × I × Ac)},Two an (p ++ x :: q) → Two an (p ++ q) ∧ ∀ y ∈ p,(an.getD x.1 0).testBit y.1=true ∨ (y.2.2.ok2 x.2.2 ∧ Apart2 y.2.1 x.2.1)
 | [],h=>⟨h.2,by simp⟩
 | z :: p,h=>by
  obtain ⟨h1,h2⟩:=h
  obtain ⟨h3,h4⟩:=Two.drop h2
  refine ⟨⟨fun y hy=>h1 y ?_,h3⟩,fun y hy=>?_⟩
  ·rcases List.mem_append.1 hy with h | h
   ·exact List.mem_append_left _ h
   ·exact List.mem_append_right _ (List.mem_cons_of_mem _ h)
  ·rcases List.mem_cons.1 hy with rfl | hy
   ·exact h1 x (List.mem_append_right _ (by simp))
   ·exact h4 y hy
theorem ops_run {E : En} {OO : Or} {an : List Nat} {is0 : List I} :
    ∀ (is:List I) (n:Nat) (acs:List Ac) (s s':St),evOpsD E OO is acs s=some s' → acs.length=n → (∀ k,is[k]? = is0[n + k]?) →
     (∀ j,n ≤ j → j < n + is.length → ∀ i,i < j → (an.getD j 0).testBit i=true ∨ ∃ x y,is0[i]? = some x ∧ is0[j]? = some y ∧ y.un.contains i=true ∧ x.apart2 y=true) →
     ∃ l:List (Nat × I × Ac),l.map (·.1)=List.range' n is.length ∧ (∀ x ∈ l,is0[x.1]? = some x.2.1) ∧ Run E OO l s s' ∧ Two an l ∧
      (∀ x ∈ l,∀ i a,acs[i]? = some a → (an.getD x.1 0).testBit i=true ∨ ∃ y,is0[i]? = some y ∧ a.ok2 x.2.2 ∧ Apart2 y x.2.1)
 | [],n,acs,s,s',h,hn,hi,hc=>by
  simp only [evOpsD] at h; cases h
  exact ⟨[],rfl,by simp,.refl s,trivial,by simp⟩
 | i :: is,n,acs,s,s',h,hn,hi,hc=>by
  simp only [evOpsD] at h
  split at h
  ·rename_i s1 ac h1
   split at h
   ·rename_i hall
    have hi0:is0[n]? = some i:=by have:=hi 0; simpa using this.symm
    obtain ⟨l,l1,l2,l3,l4,l5⟩:=ops_run is (n + 1) (acs ++ [ac]) s1 s' h (by simp [hn]) (fun k=>by have:=hi (k + 1); rw [show n + 1 + k=n + (k + 1) by omega]; simpa using this)
     (fun j a b k hk=>hc j (by omega) (by simp; omega) k hk)
    have hself:∀ k a,acs[k]? = some a → (an.getD n 0).testBit k=true ∨ ∃ y,is0[k]? = some y ∧ a.ok2 ac ∧ Apart2 y i:=by
     intro k a hk
     have hkn:k < n:=by rw [← hn]; exact (List.getElem?_eq_some_iff.1 hk).1
     rcases hc n (Nat.le_refl _) (by simp) k hkn with h | ⟨x,y,hx,hy,hu,hap⟩
     ·exact .inl h
     ·rw [hi0] at hy; cases hy
      refine .inr ⟨x,hx,?_,apart2_spec hap⟩
      unfold okA at hall
      have:=List.all_eq_true.1 hall k (by simpa using hu)
      simp only [hk] at this
      exact .inl this
    refine ⟨(n,i,ac) :: l,by simp [l1,List.range'_succ],?_,⟨s1,h1,l3⟩,⟨?_,l4⟩,?_⟩
    ·intro x hx
     rcases List.mem_cons.1 hx with rfl | hx
     ·exact hi0
     ·exact l2 x hx
    ·intro y hy
     rcases l5 y hy n ac (by rw [List.getElem?_append_right (by omega)]; simp [hn]) with h | ⟨z,hz,h1,h2⟩
     ·exact .inl h
     ·rw [hi0] at hz; cases hz; exact .inr ⟨h1,h2⟩
    ·intro x hx k a hk
     rcases List.mem_cons.1 hx with rfl | hx
     ·exact hself k a hk
     ·refine l5 x hx k a ?_
      rw [List.getElem?_append_left ((List.getElem?_eq_some_iff.1 hk).1)]; exact hk
   ·cases h
  ·cases h
theorem chkL_get {P fb fr ops nt}:∀ {is:List I} {os:List Oper},chkL P fb fr ops nt is os=true → is.length=os.length ∧ ∀ (k:Nat) (i:I) (o:Oper),is[k]? = some i → os[k]? = some o → chkI P fb fr ops nt i o=true
 | [],[],_=>⟨rfl,fun k i o h=>by simp at h⟩
 | i :: is,o :: os,h=>by
  simp only [chkL,Bool.and_eq_true] at h
  obtain ⟨h1,h2⟩:=chkL_get h.2
  refine ⟨by simp [h1],fun k j p hj hp=>?_⟩
  cases k with
  | zero=>simp at hj hp; subst hj; subst hp; exact h.1
  | succ k=>simp at hj hp; exact h2 k j p hj hp
 | [],_ :: _,h=>by simp [chkL] at h
 | _ :: _,[],h=>by simp [chkL] at h
theorem ancs_length (os:List Oper):(ancs os).length=os.length:=by
 have:∀ (os:List Oper) (acc:List Nat),(os.foldl (fun acc o=>acc ++ [anc1 acc o.after.toList]) acc).length=acc.length + os.length:=by
  intro os
  induction os with
  | nil=>intro acc; simp
  | cons o os ih=>intro acc; simp only [List.foldl_cons]; rw [ih]; simp; omega
 have:=this os []
 simpa [ancs] using this
theorem anc1_bit (acc:List Nat) (k:Nat):∀ es:List Edge,(anc1 acc es).testBit k=true ↔ ∃ e ∈ es,Region.binds .any e=true ∧ (e.on=k ∨ (acc.getD e.on 0).testBit k=true)
 | [] => by simp [anc1]
 | e :: es=>by
  have ih:=anc1_bit acc k es
  simp only [anc1,List.mem_cons,exists_eq_or_imp]
  by_cases hb:Region.binds .any e=true
  ·rw [if_pos hb]
   simp only [Nat.testBit_or,Nat.testBit_two_pow,Bool.or_eq_true,decide_eq_true_eq,ih,hb,true_and]
  ·rw [if_neg hb,ih]
   simp [hb]
theorem ancs_get (os : List Oper) : ∀ j o, os[j]? = some o → (∀ k, ((ancs os).getD j 0).testBit k = true → k < j) →
    ∀ k,((ancs os).getD j 0).testBit k=true ↔ ∃ e ∈ o.after.toList,Region.binds .any e=true ∧ (e.on=k ∨ ((ancs os).getD e.on 0).testBit k=true):=by
 have key : ∀ (os : List Oper) (acc : List Nat), ∃ l, (os.foldl (fun acc o => acc ++ [anc1 acc o.after.toList]) acc) = acc ++ l ∧ l.length = os.length ∧
     ∀ j o,os[j]? = some o → (∀ k,((acc ++ l).getD (acc.length + j) 0).testBit k=true → k < acc.length + j) →
      ∀ k,((acc ++ l).getD (acc.length + j) 0).testBit k=true ↔ ∃ e ∈ o.after.toList,Region.binds .any e=true ∧ (e.on=k ∨ ((acc ++ l).getD e.on 0).testBit k=true):=by
  intro os
  induction os with
  | nil=>intro acc; exact ⟨[],by simp,rfl,by simp⟩
  | cons p os ih =>
   intro acc
   simp only [List.foldl_cons]
   obtain ⟨l,h1,h2,h3⟩:=ih (acc ++ [anc1 acc p.after.toList])
   refine ⟨anc1 acc p.after.toList :: l,by rw [h1]; simp,by simp [h2],?_⟩
   intro j o hj hlt
   cases j with
   | zero =>
    simp at hj; subst hj
    simp only [Nat.add_zero] at hlt ⊢
    have e0:(acc ++ anc1 acc p.after.toList :: l).getD acc.length 0=anc1 acc p.after.toList:=by simp [List.getD]
    rw [e0] at hlt ⊢
    intro k
    rw [anc1_bit]
    have hon:∀ e ∈ p.after.toList,Region.binds .any e=true → e.on < acc.length:=fun e he hb=>hlt e.on ((anc1_bit _ _ _).2 ⟨e,he,hb,.inl rfl⟩)
    constructor
    ·rintro ⟨e,he,hb,h⟩
     exact ⟨e,he,hb,by simpa [List.getD,List.getElem?_append_left (hon e he hb)] using h⟩
    ·rintro ⟨e,he,hb,h⟩
     exact ⟨e,he,hb,by simpa [List.getD,List.getElem?_append_left (hon e he hb)] using h⟩
   | succ j =>
    have:=h3 j o (by simpa using hj)
    simp only [List.length_append,List.length_cons,List.length_nil,Nat.zero_add,List.append_assoc,List.singleton_append] at this
    rw [show acc.length + (j + 1)=acc.length + 1 + j by omega] at hlt ⊢
    exact this hlt
 obtain ⟨l,h1,h2,h3⟩:=key os []
 intro j o hj hlt
 have e:ancs os=l:=by simpa [ancs] using h1
 rw [e] at hlt ⊢
 have:=h3 j o hj
 simp only [List.nil_append,List.length_nil,Nat.zero_add] at this
 exact this hlt
theorem any_run {P : Program} {E : En} {OO : Or} {B : Ba} {ops : Array Oper} {is : List I} (hO : CallOK P OO) (hL : Lib P E.fbits E.frb E.meth) {Q : Exit → Act → World → Prop} {s' : St} (hQ : ∀ a' w', Sim B s' a' w' → Q .normal a' w')
    (hc:chkL P E.fbits E.frb ops B.nt is ops.toList=true) (hlt:∀ j k,((ancs ops.toList).getD j 0).testBit k=true → k < j) :
    ∀ (fuel:Nat) (listed:Array Bool) (l:List (Nat × I × Ac)) (s:St) (a:Act) (w:World),listed.size=ops.size → l.length=fuel → (∀ k,k < ops.size → (k ∈ l.map (·.1) ↔ listed[k]? = some false)) → (l.map (·.1)).Nodup →
     (l.map (·.1)).Pairwise (· < ·) →
     (∀ x ∈ l,x.1 < ops.size ∧ is[x.1]? = some x.2.1) → (∀ j,listed[j]? = some true → ∀ k,((ancs ops.toList).getD j 0).testBit k=true → listed[k]? = some true) → Run E OO l s s' → Two (ancs ops.toList) l → Sim B s a w → wpAny P .any ops Q fuel listed a w:=by
 have hready:∀ (listed:Array Bool) i,i ∈ Region.ready .any ops listed → i < ops.size ∧ listed[i]? = some false ∧ ∀ o,ops[i]? = some o → ∀ e ∈ o.after.toList,Region.binds .any e=true → listed[e.on]? = some true:=by
  intro listed i hi
  unfold Region.ready at hi
  rw [List.mem_filter] at hi
  obtain ⟨h1,h2⟩:=hi
  have h1:=List.mem_range.1 h1
  simp only [Bool.and_eq_true] at h2
  obtain ⟨h2,h3⟩:=h2
  refine ⟨h1,?_,fun o ho e he hb=>?_⟩
  ·rw [Array.getD_eq_getD_getElem?] at h2
   cases e:listed[i]? with
   | none=>rw [e] at h2; simp at h2
   | some b=>rw [e] at h2; simp at h2; rw [h2]
  ·rw [ho] at h3
   simp only [Option.map_some,Option.getD_some] at h3
   rw [← Array.all_toList] at h3
   have:=List.all_eq_true.1 h3 e he
   rw [hb] at this
   simp only [Bool.not_true,Bool.false_or] at this
   rw [Array.getD_eq_getD_getElem?] at this
   cases e2:listed[e.on]? with
   | none=>rw [e2] at this; simp at this
   | some b=>rw [e2] at this; simp at this; rw [this]
 have hlen:=chkL_get hc
 have hsame:∀ {s t a w},Eqv s t → Sim B s a w → Sim B t a w:=by
  rintro s t a w he ⟨g,F,h⟩
  exact ⟨g,F,h.same t he.fr he.ob he.sg he.lo⟩
 intro fuel
 induction fuel with
 | zero =>
  intro listed l s a w hsz hl hmem hnd hpw his hcl hrun htwo hsim
  have:l=[] := List.eq_nil_of_length_eq_zero hl
  subst this
  refine ⟨?_,hQ _ _ (hsame hrun hsim)⟩
  apply List.eq_nil_iff_forall_not_mem.2
  intro i hi
  obtain ⟨h1,h2,_⟩:=hready listed i hi
  have:=(hmem i h1).2 h2
  simp at this
 | succ fuel ih =>
  intro listed l s a w hsz hl hmem hnd hpw his hcl hrun htwo hsim
  refine ⟨fun hnil=>?_,fun i hi=>?_⟩
  ·exfalso
   cases l with
   | nil=>simp at hl
   | cons x l =>
    obtain ⟨hx1,hx2⟩:=his x (by simp)
    have hxf:=(hmem x.1 hx1).1 (by simp)
    have hin:x.1 ∈ Region.ready .any ops listed:=by
     unfold Region.ready
     rw [List.mem_filter]
     refine ⟨List.mem_range.2 hx1,?_⟩
     simp only [Bool.and_eq_true]
     refine ⟨by rw [Array.getD_eq_getD_getElem?,hxf]; rfl,?_⟩
     have ho:ops[x.1]? = some ops[x.1] := Array.getElem?_eq_getElem hx1
     rw [ho]
     simp only [Option.map_some,Option.getD_some]
     rw [← Array.all_toList,List.all_eq_true]
     intro e he
     cases hb:Region.binds .any e with
     | false=>rfl
     | true =>
      simp only [Bool.not_true,Bool.false_or]
      have ha:=ancs_get ops.toList x.1 ops[x.1] (by simpa using ho) (hlt x.1)
      have hlt1:=hlt x.1 e.on ((ha e.on).2 ⟨e,he,hb,.inl rfl⟩)
      have hlt2:e.on < ops.size:=by omega
      cases hv:listed[e.on]? with
      | none=>rw [Array.getElem?_eq_none_iff] at hv; omega
      | some b =>
       cases b with
       | true=>rw [Array.getD_eq_getD_getElem?,hv]; rfl
       | false =>
        have hm:=(hmem e.on hlt2).2 hv
        simp only [List.map_cons,List.mem_cons] at hm
        simp only [List.map_cons,List.pairwise_cons] at hpw
        rcases hm with h | h
        ·omega
        ·have:=hpw.1 _ h; omega
    rw [hnil] at hin
    cases hin
  ·obtain ⟨h1,h2,h3⟩:=hready listed i hi
   have hm:=(hmem i h1).2 h2
   obtain ⟨x,hx,hxi⟩:=List.mem_map.1 hm
   obtain ⟨p,q,rfl⟩:=List.append_of_mem hx
   subst hxi
   obtain ⟨hx1,hx2⟩:=his x hx
   have ho:ops[x.1]? = some ops[x.1] := Array.getElem?_eq_getElem hx1
   have hanc:∀ k,((ancs ops.toList).getD x.1 0).testBit k=true → listed[k]? = some true:=by
    intro k hk
    obtain ⟨e,he1,he2,hk⟩:=(ancs_get ops.toList x.1 ops[x.1] (by simpa using ho) (hlt x.1) k).1 hk
    have hon:=h3 _ ho e he1 he2
    rcases hk with rfl | hk
    ·exact hon
    ·exact hcl e.on hon k hk
   obtain ⟨htwo',hpx⟩:=htwo.drop
   obtain ⟨s1,hev,hrun'⟩:=hrun.front (fun y hy=>by
    rcases hpx y hy with h | h
    ·exfalso
     have hy1:=(his y (by simp [hy])).1
     have:=(hmem y.1 hy1).1 (List.mem_map.2 ⟨y,by simp [hy],rfl⟩)
     rw [hanc _ h] at this; cases this
    ·exact h)
   have hck:=hlen.2 x.1 x.2.1 ops[x.1] hx2 (by simpa using ho)
   unfold wpOp
   simp only [ho]
   refine i_sim hO hL hsim hck hev (fun a' w' hs'=>?_)
   have hnd':((p ++ q).map (·.1)).Nodup ∧ x.1 ∉ (p ++ q).map (·.1):=by
    rw [List.map_append,List.map_cons] at hnd
    have:=(List.perm_middle (l₁ := p.map (·.1)) (l₂ := q.map (·.1)) (a:=x.1)).nodup_iff.1 hnd
    rw [List.nodup_cons] at this
    rw [List.map_append]
    exact ⟨this.2,this.1⟩
   refine ih _ (p ++ q) s1 a' w' (by simp [hsz]) (by simp at hl ⊢; omega) ?_ hnd'.1 ?_ ?_ ?_ hrun' htwo' hs'
   ·intro k hk
    by_cases e:x.1=k
    ·subst e
     rw [Array.getElem?_setIfInBounds_self_of_lt (by omega)]
     constructor
     ·intro h; exact absurd h hnd'.2
     ·intro h; cases h
    ·rw [Array.getElem?_setIfInBounds_ne e,← hmem k hk]
     simp only [List.map_append,List.mem_append,List.map_cons,List.mem_cons]
     constructor
     ·rintro (h | h)
      ·exact .inl h
      ·exact .inr (.inr h)
     ·rintro (h | h | h)
      ·exact .inl h
      ·exact absurd h.symm e
      ·exact .inr h
   ·rw [List.map_append] at hpw ⊢
    rw [List.map_cons] at hpw
    exact hpw.sublist (List.Sublist.append_left (List.sublist_cons_self _ _) _)
   ·intro y hy
    refine his y ?_
    rcases List.mem_append.1 hy with h | h
    ·exact List.mem_append_left _ h
    ·exact List.mem_append_right _ (List.mem_cons_of_mem _ h)
   ·intro j hj k hk
    by_cases e:x.1=j
    ·subst e
     have:=hanc k hk
     by_cases e2:x.1=k
     ·subst e2; rw [Array.getElem?_setIfInBounds_self_of_lt (by omega)]
     ·rw [Array.getElem?_setIfInBounds_ne e2]; exact this
    ·rw [Array.getElem?_setIfInBounds_ne e] at hj
     have:=hcl j hj k hk
     by_cases e2:x.1=k
     ·subst e2; rw [Array.getElem?_setIfInBounds_self_of_lt (by omega)]
     ·rw [Array.getElem?_setIfInBounds_ne e2]; exact this
theorem draw_ok {P:Program} {E:En} {OO:Or} (hm:P.follows .mixedOrders=true) (hL:Lib P E.fbits E.frb E.meth) (hO:CallOK P OO):DrawOK P E OO:=by
 intro B id ops is s s' a w Q hc hd he hs hQ
 refine wp_region_any hm ?_
 have hs':Sim B s a { w with drawn:=w.drawn + 1 }:=by
  obtain ⟨g,F,h⟩:=hs
  exact ⟨g,F,h.world (fun _ _=>rfl) (Nat.le_refl _) rfl rfl rfl⟩
 obtain ⟨hlen,_⟩:=chkL_get hc
 have hd' : ∀ j, j < is.length → (ancs ops.toList).getD j 0 < 2 ^ j ∧ ∀ i, i < j → (((ancs ops.toList).getD j 0).testBit i || (match is[i]?, is[j]? with
     | some x,some y=>y.un.contains i && x.apart2 y
     | _,_=>false))=true:=by
  intro j hj
  simp only [chkD,List.all_eq_true,List.mem_range,Bool.and_eq_true,decide_eq_true_eq] at hd
  exact hd j hj
 have hlt:∀ j k,((ancs ops.toList).getD j 0).testBit k=true → k < j:=by
  intro j k hk
  by_cases hj:j < is.length
  ·have:=(hd' j hj).1
   rcases Nat.lt_or_ge k j with h | h
   ·exact h
   ·rw [Nat.testBit_lt_two_pow (Nat.lt_of_lt_of_le this (Nat.pow_le_pow_right (by omega) h))] at hk; cases hk
  ·have:(ancs ops.toList)[j]? = none:=by rw [List.getElem?_eq_none_iff,ancs_length]; omega
   simp [List.getD,this] at hk
 obtain ⟨l,l1,l2,l3,l4,_⟩:=ops_run (an:=ancs ops.toList) (is0:=is) is 0 [] s s' he rfl (fun k=>by simp) (fun j _ hj i hi=>by
  have:=(hd' j (by omega)).2 i hi
  rw [Bool.or_eq_true] at this
  rcases this with h | h
  ·exact .inl h
  ·split at h
   ·rename_i x y hx hy
    rw [Bool.and_eq_true] at h
    exact .inr ⟨x,y,hx,hy,h.1,h.2⟩
   ·cases h)
 have hsz:ops.size=is.length:=by rw [hlen]; simp
 have hmap:l.map (·.1)=List.range ops.size:=by rw [l1,List.range_eq_range',hsz]
 refine any_run hO hL hQ hc hlt ops.size _ l s a _ (by simp) ?_ ?_ ?_ ?_ ?_ ?_ l3 l4 hs'
 ·have:=congrArg List.length hmap; simpa using this
 ·intro k hk
  rw [hmap]
  simp [hk]
 ·rw [hmap]; exact List.nodup_range
 ·rw [hmap]; exact List.pairwise_lt_range
 ·intro x hx
  have:x.1 ∈ List.range ops.size:=by rw [← hmap]; exact List.mem_map.2 ⟨x,hx,rfl⟩
  exact ⟨List.mem_range.1 this,l2 x hx⟩
 ·intro j hj
  exfalso
  rw [Array.getElem?_replicate] at hj
  split at hj <;> simp at hj
end Go.AM

namespace Go.AM
inductive Ty where
 | b
 | i (k:IntKind)
 | s
 | st (fs:List Ty)
 | l (sz:Nat) (agg:Bool) (e:Ty)
mutual
inductive Fits:Ty → List D → Prop
 | b (x:Bool):Fits .b [.b x]
 | i (k:IntKind) (n:Int) (h:(Lit.int k n).wf=true):Fits (.i k) [.i k n]
 | s (v:ByteArray) (h:v.size ≤ maxLen):Fits .s [.s v]
 | st {fs:List Ty} {cs:List D} (h:Fitss fs cs):Fits (.st fs) cs
 | l (sz:Nat) (agg:Bool) (e:Ty) (xs:List D) (hl:xs.length ≤ maxLen) (h:∀ x ∈ xs,Fits e x.cells) (ha:∀ x ∈ xs,if agg then ∃ cs,x=.a cs else ∃ c,x=c ∧ c.cells=[c]):Fits (.l sz agg e) [.l .z sz xs]
inductive Fitss:List Ty → List D → Prop
 | nil:Fitss [] []
 | cons {f:Ty} {fs:List Ty} {c d:List D} (h:Fits f c) (k:Fitss fs d):Fitss (f :: fs) (c ++ d)
end
mutual
def tyOf (P:Program):Nat → Bool → TypeId → Option Ty
 | 0,_,_=>none
 | n + 1,deep,t=>match P.underlying t with
  | some .bool=>some .b
  | some (.int k)=>some (.i k)
  | some .string=>some .s
  | some (.struct fs)=>(tyOfs P n deep fs.toList 0 (P.cellsOf t)).map .st
  | some (.slice e) => if deep || decide (0 < P.cellsOf e) then match tyOf P n false e with
      | some T=>some (.l (P.cellsOf e) (aggT P e == some true) T)
      | none=>none
   else none
  | _=>none
def tyOfs (P:Program):Nat → Bool → List Field → Nat → Nat → Option (List Ty)
 | 0,_,_,_,_=>none
 | _ + 1,_,[],off,tot=>if off=tot then some [] else none
 | n + 1, deep, f :: fs, off, tot => if f.offset = off then match tyOf P n deep f.type, tyOfs P n deep fs (off + P.cellsOf f.type) tot with
     | some T,some Ts=>some (T :: Ts)
     | _,_=>none
  else none
end
theorem mapM_get {α β : Type} {f:α → Option β}:∀ {l:List α} {ys:List β},l.mapM f=some ys → ys.length=l.length ∧ ∀ (i:Nat) (x:α),l[i]? = some x → ∃ y,ys[i]? = some y ∧ f x=some y
 | [],ys,h=>by simp at h; subst h; simp
 | a :: l,ys,h=>by
  rw [List.mapM_cons] at h
  cases e:f a with
  | none=>rw [e] at h; simp at h
  | some y =>
   rw [e] at h
   cases e2:l.mapM f with
   | none=>rw [e2] at h; simp at h
   | some zs =>
    rw [e2] at h
    simp at h; subst h
    obtain ⟨h1,h2⟩:=mapM_get e2
    refine ⟨by simp [h1],fun i x hi=>?_⟩
    cases i with
    | zero=>simp at hi; subst hi; exact ⟨y,rfl,e⟩
    | succ i=>simp at hi; obtain ⟨z,h3,h4⟩:=h2 i x hi; exact ⟨z,by simpa using h3,h4⟩
def Spot (v:Value):Prop:=∀ a len cap,v=.slice (some a) len cap → a.spot=none
theorem spot_of {P:Program} {W:World} {r:Reach} {base:Nat} {u:TypeId} {v:Value} (h:Cell.okWide P W r base u v):Spot v:=by
 rintro a len cap rfl
 unfold Cell.okWide at h
 cases hu:P.underlying u with
 | none=>rw [hu] at h; simp only [Cell.ok,hu] at h
 | some d =>
  rw [hu] at h
  cases d <;> simp only [Cell.ok,hu] at h
  exact h.2.2.2.1
theorem spots_of {P:Program} {W:World} {r:Reach} {base:Nat} {t:TypeId} {v:Value} (h:Value.okWide P W r base t v):∀ c ∈ v.cells.toList,Spot c:=by
 have row:∀ cs:Array Value,Row.okWide P W r base t cs → ∀ c ∈ cs.toList,Spot c:=by
  intro cs hr c hc
  obtain ⟨ts,_,_,h3⟩:=hr
  obtain ⟨i,hi,e⟩:=List.getElem_of_mem hc
  obtain ⟨u,_,h4⟩:=h3 i c (by rw [← e]; simp at hi ⊢)
  exact spot_of h4
 unfold Value.okWide at h
 split at h
 ·obtain ⟨cs,rfl,_,hr⟩:=h; exact row cs hr
 ·obtain ⟨cs,rfl,_,hr⟩:=h; exact row cs hr
 ·have:=spot_of h
  cases v <;> first | (intro c hc; simp [Value.cells] at hc; subst hc; exact this) | skip
  intro c hc
  exfalso
  unfold Cell.okWide at h
  cases hu:P.underlying t <;> rw [hu] at h
  ·simp only [Cell.ok,hu] at h
  ·rename_i d; cases d <;> simp only [Cell.ok,hu] at h
theorem fits_flat {P:Program} {n:Nat} {e:TypeId} {T:Ty} (h:tyOf P n false e=some T) {ds:List D} (hf:Fits T ds) (ha:¬ aggT P e=some true):∃ d,ds=[d] ∧ d.cells=[d] := by
 cases n with
 | zero=>simp [tyOf] at h
 | succ n =>
  simp only [tyOf] at h
  split at h
  ·cases h; cases hf; exact ⟨_,rfl,rfl⟩
  ·cases h; cases hf; exact ⟨_,rfl,rfl⟩
  ·cases h; cases hf; exact ⟨_,rfl,rfl⟩
  ·rename_i fs hu
   exact absurd (by simp [aggT,hu]) ha
  ·split at h
   ·split at h
    ·cases h; cases hf; exact ⟨_,rfl,rfl⟩
    ·cases h
   ·cases h
  ·cases h
section
variable {H:Type} {enc:TypeId × Value → H} {P:Program} {w:World} {sp:Nat → Bool} {held:Bool}
def OpenAt (enc:TypeId × Value → H) (P:Program) (w:World) (sp:Nat → Bool) (held:Bool) (n:Nat):Prop :=
 ∀ deep t T fuel cs d ps,tyOf P n deep t=some T → DataW.trod enc P w 0 sp held fuel t cs=some (d,ps) → (deep=true → ∀ v ∈ cs,Spot v) →
  ∃ ds,RVs (imW w) (fun _=>none) w ds cs [] ∧ Fits T ds ∧ ∀ v ∈ cs,v.oneCell'=true
theorem open_fields {n : Nat} (ih : OpenAt enc P w sp held n) (fuel : Nat) (cs : List Value) (deep : Bool) (hs : deep = true → ∀ v ∈ cs, Spot v) :
    ∀ (m:Nat) (hm:m ≤ n) (fs:List Field) (off tot:Nat) (Ts:List Ty) (xs:List (DataW H × List MemPlace)),(∀ k,k ≤ n → OpenAt enc P w sp held k) → tyOfs P m deep fs off tot=some Ts → cs.length=tot →
     (fs.mapM fun f=>DataW.trod enc P w 0 sp held fuel f.type ((cs.drop f.offset).take (P.cellsOf f.type)))=some xs →
     ∃ ds,RVs (imW w) (fun _=>none) w ds (cs.drop off) [] ∧ Fitss Ts ds ∧ ∀ v ∈ cs.drop off,v.oneCell'=true
 | 0,_,fs,off,tot,Ts,xs,_,h,_,_=>by simp [tyOfs] at h
 | m + 1,hm,[],off,tot,Ts,xs,hall,h,hl,hx=>by
  simp only [tyOfs] at h
  split at h
  ·rename_i e
   cases h
   have:cs.drop off=[] := by rw [List.drop_eq_nil_iff]; omega
   rw [this]
   exact ⟨[],.nil,.nil,by simp⟩
  ·cases h
 | m + 1,hm,f :: fs,off,tot,Ts,xs,hall,h,hl,hx=>by
  simp only [tyOfs] at h
  split at h
  ·rename_i e
   split at h
   ·rename_i T Ts' h1 h2
    cases h
    rw [List.mapM_cons] at hx
    cases e1:DataW.trod enc P w 0 sp held fuel f.type ((cs.drop f.offset).take (P.cellsOf f.type)) with
    | none=>rw [e1] at hx; simp at hx
    | some y =>
     rw [e1] at hx
     cases e2:(fs.mapM fun f=>DataW.trod enc P w 0 sp held fuel f.type ((cs.drop f.offset).take (P.cellsOf f.type))) with
     | none=>rw [e2] at hx; simp at hx
     | some ys =>
      obtain ⟨d,p⟩:=y
      obtain ⟨ds,k1,k2,k3⟩:=hall m (by omega) deep f.type T fuel _ d p h1 e1 (fun hd v hv=>hs hd v (List.mem_of_mem_drop (List.mem_of_mem_take hv)))
      obtain ⟨es,l1,l2,l3⟩:=open_fields ih fuel cs deep hs m (by omega) fs _ _ _ _ hall h2 hl e2
      rw [e] at k1 k3
      have hsplit:cs.drop off=(cs.drop off).take (P.cellsOf f.type) ++ cs.drop (off + P.cellsOf f.type):=by
       rw [← List.drop_drop,List.take_append_drop]
      rw [hsplit]
      exact ⟨ds ++ es,by simpa using k1.append l1,.cons k2 l2,fun v hv=>(List.mem_append.1 hv).elim (k3 v) (l3 v)⟩
   ·cases h
  ·cases h
theorem open_at:∀ n,OpenAt enc P w sp held n:=by
 intro n
 induction n using Nat.strongRecOn with
 | ind n ih =>
 intro deep t T fuel cs d ps ht htr hs
 cases n with
 | zero=>simp [tyOf] at ht
 | succ n =>
 have ih1:∀ k,k ≤ n → OpenAt enc P w sp held k:=fun k hk=>ih k (by omega)
 cases fuel with
 | zero=>simp [DataW.trod] at htr
 | succ fuel =>
 unfold DataW.trod at htr
 simp only [tyOf] at ht
 split at ht
 ·rename_i hu
  cases ht
  simp only [hu] at htr
  rcases cs with _ | ⟨v,_ | ⟨v2,r⟩⟩ <;> (try cases v) <;> simp at htr
  rename_i b
  exact ⟨[.b b],.b b .nil,.b b,by simp [Value.oneCell']⟩
 ·rename_i k hu
  cases ht
  simp only [hu] at htr
  rcases cs with _ | ⟨v,_ | ⟨v2,r⟩⟩ <;> (try cases v) <;> simp at htr
  rename_i k1 n1
  obtain ⟨⟨rfl,hwf⟩,_⟩:=htr
  exact ⟨[.i _ n1],.i _ n1 .nil,.i _ n1 hwf,by simp [Value.oneCell']⟩
 ·rename_i hu
  cases ht
  simp only [hu] at htr
  rcases cs with _ | ⟨v,_ | ⟨v2,r⟩⟩ <;> (try cases v) <;> simp at htr
  rename_i s1
  exact ⟨[.s s1],.s s1 .nil,.s s1 htr.1,by simp [Value.oneCell']⟩
 ·rename_i fs hu
  simp only [Option.map_eq_some_iff] at ht
  obtain ⟨Ts,ht,rfl⟩:=ht
  simp only [hu] at htr
  have htr':cs.length=P.cellsOf t ∧ ∃ xs,(fs.toList.mapM fun f=>DataW.trod enc P w 0 sp held fuel f.type ((cs.drop f.offset).take (P.cellsOf f.type)))=some xs:=by
   rcases cs with _ | ⟨v,_ | ⟨v2,r⟩⟩ <;> (try cases v) <;>
    (simp only [Option.ite_none_right_eq_some, Option.map_eq_some_iff] at htr
     obtain ⟨h1,xs,h2,_⟩:=htr
     exact ⟨h1,xs,h2⟩)
  obtain ⟨hl,xs,hx⟩:=htr'
  obtain ⟨ds,k1,k2,k3⟩:=open_fields (ih1 n (Nat.le_refl _)) fuel cs deep hs n (Nat.le_refl _) fs.toList 0 (P.cellsOf t) Ts xs ih1 ht hl hx
  exact ⟨ds,by simpa using k1,.st k2,by simpa using k3⟩
 ·rename_i e hu
  split at ht
  ·rename_i hdeep
   split at ht
   ·rename_i T1 hT
    cases ht
    simp only [hu] at htr
    have hcs:cs=[.slice none 0 0] ∨ ∃ a len cap,cs=[.slice (some a) len cap] ∧ len ≤ cap ∧ cap ≤ maxLen ∧ ∃ elems,(List.range len).mapM (fun i=>(w.cells? 0 (a.add (i * P.cellsOf e)) (P.cellsOf e)).bind (DataW.trod enc P w 0 sp held fuel e))=some elems:=by
     rcases cs with _ | ⟨v,_ | ⟨v2,r⟩⟩ <;> (try cases v) <;> (try (simp at htr; done))
     rename_i base len cap
     cases base with
     | none =>
      left
      cases len <;> cases cap <;> simp at htr ⊢
     | some a =>
      right
      simp only [Option.ite_none_right_eq_some] at htr
      obtain ⟨⟨_,h1,h2⟩,h3⟩:=htr
      cases e2:(List.range len).mapM (fun i=>(w.cells? 0 (a.add (i * P.cellsOf e)) (P.cellsOf e)).bind (DataW.trod enc P w 0 sp held fuel e)) with
      | none=>rw [e2] at h3; simp at h3
      | some elems=>exact ⟨a,len,cap,rfl,h1,h2,elems,e2⟩
    rcases hcs with rfl | ⟨a,len,cap,rfl,h1,h2,elems,h3⟩
    ·exact ⟨[.l .z _ []],.lnil .z _ .nil,.l _ _ _ [] (by simp) (by simp) (by simp),by simp [Value.oneCell']⟩
    ·obtain ⟨hlen,hget⟩:=mapM_get h3
     by_cases hl0:len=0
     ·subst hl0
      exact ⟨[.l .z _ []],.lez .z (.inl rfl) _ a cap (fun e=>nomatch e) .nil,.l _ _ _ [] (by simp) (by simp) (by simp),by simp [Value.oneCell']⟩
     have hspot:a.spot=none:=by
      by_cases hd:deep=true
      ·exact hs hd _ (by simp) a len cap rfl
      ·have hpos:0 < P.cellsOf e:=by simpa [hd] using hdeep
       obtain ⟨y,hy,hf⟩:=hget 0 0 (List.getElem?_range (by omega))
       cases hc:w.cells? 0 (a.add (0 * P.cellsOf e)) (P.cellsOf e) with
       | none=>rw [hc] at hf; simp at hf
       | some ecs =>
        unfold World.cells? at hc
        rw [if_pos (Nat.zero_le _)] at hc
        obtain ⟨hel,heg⟩:=mapM_get hc
        obtain ⟨z,hz,hzc⟩:=heg 0 0 (by simp [hpos])
        have:=World.cell?_spot hzc
        obtain ⟨b,o,sp1⟩:=a
        cases sp1 with
        | none=>rfl
        | some sp1=>simp [Addr.add] at this
     obtain ⟨b,o,sp1⟩:=a
     simp only at hspot
     subst hspot
     have step : ∀ m, m ≤ len → ∃ (xs : List D) (us : List Value), xs.length = m ∧ us.length = m * P.cellsOf e ∧ (∀ (j : Nat) (v : Value), us[j]? = some v → imW w b (o + j) = some v) ∧ RVs (imW w) (fun _ => none) w (cellsOf xs) us [] ∧ (∀ v ∈ us, v.oneCell' = true) ∧
         (∀ x ∈ xs,Fits T1 x.cells ∧ x.cells.length=P.cellsOf e) ∧ ∀ x ∈ xs,if (aggT P e == some true) then ∃ cs,x=.a cs else ∃ c,x=c ∧ c.cells=[c] := by
      intro m
      induction m with
      | zero=>intro _; exact ⟨[],[],rfl,by simp,by simp,(show RVs _ _ _ (cellsOf []) [] [] from .nil),by simp,by simp,by simp⟩
      | succ m ihm =>
       intro hm
       obtain ⟨xs,us,l1,l2,l3,l4,l5,l6,l7⟩:=ihm (by omega)
       obtain ⟨y,hy,hf⟩:=hget m m (List.getElem?_range (by omega))
       obtain ⟨dy,py⟩:=y
       cases hc:w.cells? 0 ((⟨b,o,none⟩:Addr).add (m * P.cellsOf e)) (P.cellsOf e) with
       | none=>rw [hc] at hf; simp at hf
       | some ecs =>
        rw [hc] at hf
        simp only [Option.bind_some] at hf
        obtain ⟨es,q1,q2,q3⟩:=ih1 n (Nat.le_refl _) false e T1 fuel ecs dy py hT hf (fun h=>by cases h)
        unfold World.cells? at hc
        rw [if_pos (Nat.zero_le _)] at hc
        obtain ⟨hel,heg⟩:=mapM_get hc
        have hel:ecs.length=P.cellsOf e:=by simpa using hel
        have hcell:∀ (j:Nat) (v:Value),ecs[j]? = some v → imW w b (o + (m * P.cellsOf e + j))=some v:=by
         intro j v hj
         have hjl:j < P.cellsOf e:=by rw [← hel]; exact (List.getElem?_eq_some_iff.1 hj).1
         obtain ⟨z,hz,hzc⟩:=heg j j (by simp [hjl])
         rw [hj] at hz; cases hz
         rw [add_addr,add_addr] at hzc
         simpa [imW,Nat.add_assoc] using hzc
        have mk : ∀ x : D, x.cells = es → (if (aggT P e == some true) then ∃ cs, x = .a cs else ∃ c, x = c ∧ c.cells = [c]) → ∃ (xs : List D) (us : List Value), xs.length = m + 1 ∧ us.length = (m + 1) * P.cellsOf e ∧ (∀ (j : Nat) (v : Value), us[j]? = some v → imW w b (o + j) = some v) ∧ RVs (imW w) (fun _ => none) w (cellsOf xs) us [] ∧ (∀ v ∈ us, v.oneCell' = true) ∧
            (∀ x ∈ xs,Fits T1 x.cells ∧ x.cells.length=P.cellsOf e) ∧ ∀ x ∈ xs,if (aggT P e == some true) then ∃ cs,x=.a cs else ∃ c,x=c ∧ c.cells=[c] := by
         intro x hx hagg
         refine ⟨xs ++ [x],us ++ ecs,by simp [l1],by rw [List.length_append,l2,hel,Nat.add_mul]; omega,?_,?_,?_,?_,?_⟩
         ·intro j v hj
          rw [List.getElem?_append] at hj
          split at hj
          ·exact l3 j v hj
          ·rename_i hge
           have:=hcell (j - us.length) v hj
           rw [← l2,Nat.add_sub_cancel' (by omega)] at this
           exact this
         ·rw [cellsOf_append]
          have:cellsOf [x] = es:=by simp [cellsOf,hx]
          rw [this]
          simpa using l4.append q1
         ·intro v hv; exact (List.mem_append.1 hv).elim (l5 v) (q3 v)
         ·intro z hz
          rcases List.mem_append.1 hz with hz | hz
          ·exact l6 z hz
          ·simp at hz; subst hz; rw [hx]; exact ⟨q2,by rw [q1.length,hel]⟩
         ·intro z hz
          rcases List.mem_append.1 hz with hz | hz
          ·exact l7 z hz
          ·simp at hz; subst hz; exact hagg
        by_cases hag:aggT P e=some true
        ·exact mk (.a es) rfl (by simp [hag])
        ·obtain ⟨d1,rfl,hd1⟩:=fits_flat hT q2 hag
         exact mk d1 hd1 (by simp [hag,hd1])
     obtain ⟨xs,us,l1,l2,l3,l4,l5,l6,l7⟩:=step len (Nat.le_refl _)
     have hr:=RVs.lz (im:=imW w) (gl:=fun _=>none) (w:=w) .z (.inl rfl) (P.cellsOf e) xs b o cap us (by omega) (fun h=>nomatch h) (fun x hx=>(l6 x hx).2) l3 l5 l4 .nil
     rw [l1] at hr
     exact ⟨[.l .z (P.cellsOf e) xs],hr,.l _ _ _ xs (by omega) (fun x hx=>(l6 x hx).1) l7,by simp [Value.oneCell']⟩
   ·cases ht
  ·cases ht
 ·cases ht
end
inductive FitA:List (Bool × Ty) → List D → Prop
 | nil:FitA [] []
 | a {T:Ty} {r:List (Bool × Ty)} {cs ds:List D} (h:Fits T cs) (k:FitA r ds):FitA ((true,T) :: r) (.a cs :: ds)
 | c {T:Ty} {r:List (Bool × Ty)} {d:D} {ds:List D} (h:Fits T [d]) (k:FitA r ds):FitA ((false,T) :: r) (d :: ds)
def tyA (P:Program) (ts:List TypeId):Option (List (Bool × Ty)):=ts.mapM fun t=>(tyOf P 24 true t).map fun T=>(aggT P t == some true,T)
theorem okWide_cells {P : Program} {W : World} {r : Reach} {base : Nat} {t : TypeId} {v : Value} (h : Value.okWide P W r base t v) :
    (aggT P t=some true ∧ ∃ cs:Array Value,v=.agg cs) ∨ (aggT P t ≠ some true ∧ v.cells.toList=[v]):=by
 unfold Value.okWide at h
 split at h
 ·rename_i fs hu; obtain ⟨cs,rfl,_⟩:=h; exact .inl ⟨by simp [aggT,hu],cs,rfl⟩
 ·rename_i n e hu; obtain ⟨cs,rfl,_⟩:=h; exact .inl ⟨by simp [aggT,hu],cs,rfl⟩
 ·rename_i h1 h2
  refine .inr ⟨?_,?_⟩
  ·unfold aggT
   cases hu:P.underlying t with
   | none=>simp
   | some d=>cases d <;> simp <;> first | exact absurd hu (h1 _) | exact absurd hu (h2 _ _)
  ·cases v <;> first | (simp [Value.cells]; done) | skip
   exfalso
   unfold Cell.okWide at h
   cases hu:P.underlying t <;> rw [hu] at h
   ·simp only [Cell.ok,hu] at h
   ·rename_i d; cases d <;> simp only [Cell.ok,hu] at h
theorem open_args {H : Type} {enc : TypeId × Value → H} {P : Program} {w : World} {sp : Nat → Bool} {held : Bool} {r : Reach} {base : Nat} :
    ∀ {ts:List TypeId} {Ts:List (Bool × Ty)} {vs:List Value} {ds0:List (DataW H)} {ps:List MemPlace},tyA P ts=some Ts → DataW.TrodAll enc P w 0 sp held ts vs ds0 ps →
     (∀ (j:Nat) t v,ts[j]? = some t → vs[j]? = some v → Value.okWide P w r base t v) → ∃ ds,RVs (imW w) (fun _=>none) w ds vs [] ∧ FitA Ts ds
 | [],Ts,[],[],ps,hT,h,hv=>by simp [tyA] at hT; subst hT; exact ⟨[],.nil,.nil⟩
 | t :: ts,Ts,v :: vs,d :: ds0,ps,hT,h,hv=>by
  obtain ⟨p,q,⟨fuel,h1⟩,h2,_⟩:=h
  unfold tyA at hT
  rw [List.mapM_cons] at hT
  cases e1:tyOf P 24 true t with
  | none=>rw [e1] at hT; simp at hT
  | some T =>
   rw [e1] at hT
   cases e2:tyA P ts with
   | none=>unfold tyA at e2; rw [e2] at hT; simp at hT
   | some Ts' =>
    unfold tyA at e2
    rw [e2] at hT
    simp at hT; subst hT
    have hok:=hv 0 t v rfl rfl
    obtain ⟨ds,k1,k2⟩:=open_args (P:=P) (w:=w) e2 h2 (fun j t v a b=>hv (j + 1) t v a b)
    obtain ⟨es,l1,l2,l3⟩:=open_at 24 true t T fuel v.cells.toList d p e1 h1 (fun _=>spots_of hok)
    rcases okWide_cells hok with ⟨ha,cs,rfl⟩ | ⟨ha,hc⟩
    ·refine ⟨.a es :: ds,?_,by simp only [ha]; exact .a l2 k2⟩
     have:=RVs.a es cs.toList l3 l1 k1
     simpa using this
    ·rw [hc] at l1
     obtain ⟨d1,rfl,hd1⟩:∃ d1,es=[d1] ∧ True:=by
      have:=l1.length
      match es,this with
      | [d1],_=>exact ⟨d1,rfl,trivial⟩
     refine ⟨d1 :: ds,?_,?_⟩
     ·have:=l1.append k1
      simpa using this
     ·have:(aggT P t == some true)=false:=by simpa using ha
      simp only [this]
      exact .c l2 k2
 | [],_,_ :: _,_,_,_,h,_=>h.elim
 | [],_,[],_ :: _,_,_,h,_=>h.elim
 | _ :: _,_,[],_,_,_,h,_=>h.elim
 | _ :: _,_,_ :: _,[],_,_,h,_=>h.elim
theorem law_call {P : Program} {E : En} {H : Type} {enc : TypeId × Value → H} {w : World} {r : Reach} {base : Nat} {f : FuncId} {ts : List TypeId} {Ts : List (Bool × Ty)} {args : Array Value} {ds0 : List (DataW H)} {ps : List MemPlace}
    (hm:P.follows .mixedOrders=true) (hE:EnvOK P E) (hL:Lib P E.fbits E.frb E.meth) (hT:tyA P ts=some Ts) (hA:DataW.TrodAll enc P w 0 (fun _=>true) true ts args.toList ds0 ps)
    (hv:∀ (j:Nat) t v,ts[j]? = some t → args[j]? = some v → Value.okWide P w r base t v)
    (hlaw:∀ ds,FitA Ts ds → ∃ sg lo,(lim E).call f ds [] 0=some (.b true,sg,lo)) (hf:decide (f < Q0)=true:=by exact rfl) :
    Calls P f args w (fun e w'=>e=.returned (.bool true) ∧ RowKit.Below w.heap.size w w'):=by
 obtain ⟨ds,h1,h2⟩:=open_args hT hA (fun j t v a b=>hv j t v a (by simpa using b))
 obtain ⟨sg,lo,hc⟩:=hlaw ds h2
 have hO:=lim_ok hE hL (fun OO hO=>draw_ok hm hL hO)
 have:=top hO (of_decide_eq_true hf) hc w h1 (fun v=>v=.bool true) (fun im gl w' v F h=>by cases h; rfl)
 refine (by simpa using this:Calls P f args w _).mono ?_
 rintro e w' ⟨⟨v,rfl,rfl⟩,hb⟩
 exact ⟨rfl,hb⟩
end Go.AM
