/- Lemmas: an abstract machine over the loaded program, proved sound against the model once; what the program's functions compute. -/
import Derived.Test.YteiahfpnjjdkoaaGreatK0
import Derived.Laws.MakeOwn
import Derived.Laws.BytesString
import Derived.LoopN
import Derived.Below
set_option linter.all false
namespace Go.AM
theorem Sm.setx {B g g' F s a w w' ds vs Fx ds' vs' Fx'} (h : Sm B g F s a w ds vs Fx) (hc : Chg B g g' w w' Fx) (hx : g'.rv w' ds' vs' Fx') (hn : Fx'.Nodup) (hs : ∀ b ∈ Fx', b ∈ Fx) :
    Sm B g' F s a w' ds' vs' Fx':=by
 have hdj:∀ x,∀ b ∈ F x,b ∉ Fx:=fun x b hb=>h.dj.dix x b hb
 refine { h with sl:=?_,ob:=?_,gb:=?_,ex:=hx,lcd:=?_,dj:=h.dj.sub hs hn,lt:=?_,imok:=hc.imok,im0:=fun b j v e=>hc.im _ _ _ (h.im0 b j v e),gl0:=fun r b e=>by rw [hc.gl]; exact h.gl0 r b e,glb:=fun r b e=>h.glb r b (by rw [← hc.gl]; exact e),gpl:=fun r b e=>by rw [hc.gl]; exact h.gpl r b (by rw [← hc.gp]; exact e),keep:=?_,os:=hc.os.trans h.os,tape:=hc.tape.trans h.tape,out:=hc.out.trans h.out,hs:=by rw [hc.size]; exact h.hs }
 ·intro j r hj
  obtain ⟨v,hv,hr0⟩:=h.sl j r hj
  refine ⟨v,hv,?_⟩
  cases r with
  | v d=>exact hc.rv hr0 (hdj _)
  | q q =>
   refine ⟨hr0.1,hr0.2.of_same (fun k x e=>by rw [hc.lc]; exact e) ?_ (fun pl sz xs e=>⟨xs,e,rfl⟩)⟩
   intro pl u hp
   refine hp.chg hc (fun b hb=>?_)
   cases pl with
   | ob i off =>
    obtain ⟨ci,hi⟩:=h.lcd i _ hb
    exact hdj _ b (h.blk_ob hi hb)
   | gb r off=>exact hdj _ b (h.blk_gb hb)
 ·intro j cs0 hj
  have:=h.ob j cs0 hj
  unfold obOK at this ⊢
  rw [hc.lc]
  cases e:g.lc j with
  | none=>rw [e] at this; exact this
  | some x =>
   rw [e] at this
   cases x with
   | inl b=>exact hc.own this (hdj _)
   | inr v=>obtain ⟨d,e1,e2⟩:=this; exact ⟨d,e1,hc.rv e2 (hdj _)⟩
 ·intro r cs0 hj
  exact (h.gb r cs0 hj).framed (by rw [hc.gp]) (fun r b e=>by rw [hc.gl]; exact e) hc.im (fun b hb=>⟨hc.imo b (hdj _ b hb),hc.heap b (hdj _ b hb)⟩)
 ·intro k x hk; rw [hc.lc] at hk; exact h.lcd k x hk
 ·intro b hb
  have:=h.lt b (hb.sub hs)
  rw [hc.size]; exact this
 ·intro b h1 h2
  have hb:b ∉ Fx:=by
   intro hm
   rcases (h.lt b (.inl hm)).2 with hh | hh
   ·exact h2 hh
   ·omega
  obtain ⟨k1,k2⟩:=h.keep b h1 h2
  exact ⟨(hc.heap b hb).trans k1,fun j=>(hc.imo b hb j).trans (k2 j)⟩
theorem Chg.set {B:Ba} {g:G} {w:World} {im' F} (hs:Set g.im im' w F) (hi:∀ b j v,g.im b j=some v → w.cell? ⟨b,j,none⟩=some v):Chg B g { g with im:=im' } w w F :=
 ⟨fun _ _=>rfl,rfl,hs.keep,hs.same,fun b j v e=>(hs.cell b j v e).elim (hi b j v) id,rfl,rfl,rfl,rfl,rfl,rfl⟩
theorem l_inv {im gl w k sz xs v F} (h : RVs im gl w [.l k sz xs] [v] F) :
    (xs=[] ∧ v=.slice none 0 0 ∧ F=[]) ∨ (xs=[] ∧ (k=.z ∨ k=.n) ∧ F=[] ∧ ∃ x cap,(k=.n → cap=0) ∧ v=.slice (some x) 0 cap) ∨ ∃ b o cap us G,v=.slice (some ⟨b,o,none⟩) xs.length cap ∧ xs.length ≤ cap ∧ (∀ x ∈ xs,x.cells.length=sz) ∧ (∀ v ∈ us,v.oneCell'=true) ∧ RVs im gl w (cellsOf xs) us G ∧
     ((∃ hk : k = .z ∨ k = .n, F = [] ∧ G = [] ∧ (k = .n → cap = xs.length) ∧ ∀ (j : Nat) (u : Value), us[j]? = some u → im b (o + j) = some u) ∨
      (k=.o ∧ F=[b] ∧ G=[] ∧ Room w b (o + cap * sz) ∧ (∀ j,o + xs.length * sz ≤ j → im b j=none) ∧ ∀ (j:Nat) (u:Value),us[j]? = some u → im b (o + j)=some u) ∨
      (k=.x ∧ F=b :: G ∧ Room w b (o + cap * sz) ∧ (∀ j,im b j=none) ∧ ∀ (j:Nat) (u:Value),us[j]? = some u → w.cell? ⟨b,o + j,none⟩=some u)):=by
 cases h with
 | lnil k sz h=>cases h; exact .inl ⟨rfl,rfl,rfl⟩
 | lez k hk sz x cap hn h=>cases h; exact .inr (.inl ⟨rfl,hk,rfl,x,cap,hn,rfl⟩)
 | lz k hk sz xs b o cap us hcap hn hs hu h1 hc h=>cases h; exact .inr (.inr ⟨b,o,cap,us,[],rfl,hcap,hs,h1,hc,.inl ⟨hk,rfl,rfl,hn,hu⟩⟩)
 | lo sz xs b o cap us hcap hs hu h1 hr hi hc h=>cases h; exact .inr (.inr ⟨b,o,cap,us,[],rfl,hcap,hs,h1,hc,.inr (.inl ⟨rfl,rfl,rfl,hr,hi,hu⟩)⟩)
 | lx sz xs b o cap us hcap hs hu h1 hr hi hc h=>cases h; exact .inr (.inr ⟨b,o,cap,us,_,rfl,hcap,hs,h1,hc,.inr (.inr ⟨rfl,by simp,hr,hi,hu⟩)⟩)
def chkIaA (P:Program) (t:TypeId) (sz:Nat) (len:Option Nat):Bool:=match P.underlying t,len with
 | some (.array m e),some n=>m == n && szT P e == some sz
 | some (.slice e),none=>szT P e == some sz
 | _,_=>false
theorem hpl_hdr {g:G} {w:World} {s:St} {q:AM.Q} {v:Value} {pl:Pl} {ac:Ac} (h:hpl (.q q)=some (pl,ac)) (hq:qOK g w s q v):plHdr g w pl v:=by
 unfold hpl at h
 split at h
 ·rename_i p e; cases e; cases h; exact hq
 ·rename_i k e; cases e; cases h
  have hq':g.lc k=some (.inr v):=hq
  simp [plHdr,hq']
 ·cases h
theorem rx_int {B g F s a w x x' r s1 y y' k n s2} (h : Sm B g F s a w [] [] []) (hx : chkX x x' = true) (hy : chkX y y' = true) (h1 : rx x s = some (r, s1)) (h2 : rxv y s1 = some (.i k n, s2)) :
    a.eval y'=.int k n ∧ ((∃ d F' Fy,r=.v d ∧ Sm B g F' s2 a w [d] [a.eval x'] Fy) ∨ ∃ q F',r=.q q ∧ Sm B g F' s2 a w [] [] [] ∧ qOK g w s2 q (a.eval x')):=by
 rcases rx_sim h hx h1 with ⟨d,F1,Fy,rfl,k1⟩ | ⟨q,F1,rfl,k1,hq⟩
 ·obtain ⟨F2,Fz,k2⟩:=rxv_sim (by simpa using k1) hy h2
  obtain ⟨A,C,e,hA,hC⟩:=Sm.two (by simpa using k2)
  have hn:=k2.dj.ndx
  rw [e] at hn
  refine ⟨int_inv hC,.inl ⟨d,F2,A,rfl,k2.weaken _ _ A hA (fun b hb=>by rw [e]; simp [hb]) (List.nodup_append.1 hn).1⟩⟩
 ·obtain ⟨F2,Fz,k2⟩:=rxv_sim k1 hy h2
  obtain ⟨A,hA⟩:=k2.last
  exact ⟨int_inv hA,.inr ⟨q,F2,rfl,k2.drop .nil,hq.of_at (rxv_at h2)⟩⟩
theorem ia_core {P B g a w Q} {o : Oper} {t : TypeId} {sz len x' y' kk n s' r1 r2 ac} (hd : ∀ k, o.dst = some k → k < B.nt) (hop : o.op = .indexAddr t x' y') (hc : chkIaA P t sz len = true) (hn : a.eval y' = .int kk n)
    (hr:(∃ d F' Fy,r1=.v d ∧ Sm B g F' s' a w [d] [a.eval x'] Fy) ∨ ∃ q F',r1=.q q ∧ Sm B g F' s' a w [] [] [] ∧ qOK g w s' q (a.eval x')) (h3:iav s' sz len r1 n=some (r2,ac)):Done P B o a w Q s' r2:=by
 unfold iav at h3
 split at h3
 ·cases h3
 ·rename_i h0
  have h0':0 ≤ n:=by omega
  unfold chkIaA at hc
  split at hc
  ·rename_i m e mm hu
   simp only [Bool.and_eq_true,beq_iff_eq] at hc
   obtain ⟨rfl,hsz⟩:=hc
   simp only at h3
   split at h3
   ·rename_i hlt
    have hfav:∃ r3,fav (n.toNat * sz) r1=some r3 ∧ r3=r2:=by
     split at h3 <;> first | (cases h3; exact ⟨_,rfl,rfl⟩) | cases h3
    obtain ⟨r3,hf,rfl⟩:=hfav
    have fin:∀ {F' Fx ds vs},Sm B g F' s' a w ds vs Fx → ((∃ d A,r1=.v d ∧ g.rv w [d] [a.eval x'] A) ∨ (∃ q,r1=.q q ∧ qOK g w s' q (a.eval x'))) → Done P B o a w Q s' r3:=by
     intro F' Fx ds vs k hr
     obtain ⟨b,o1,ev,hh⟩:=ptr_off k hr (n.toNat * sz) hf
     have hrun:(execOp a.eval o).run P w=.ok (.value (.pointer (some ⟨b,o1 + n.toNat * sz,none⟩))) w:=by
      simp [execOp,hop,ev,hn,Instr.indexAt,asIntOf,underlying,hu,Instr.sureAddr,h0',hlt,run_sizeOf hsz,add_addr]
     rcases hh with ⟨d,rfl,hr⟩ | ⟨q,rfl,hq⟩
     ·exact done_v hd hrun (k.drop hr)
     ·exact done_q hd hrun k hq
    rcases hr with ⟨d,F',Fy,rfl,k⟩ | ⟨q,F',rfl,k,hq⟩
    ·exact fin k (.inl ⟨d,_,rfl,k.ex⟩)
    ·exact fin k (.inr ⟨q,rfl,hq⟩)
   ·cases h3
  ·rename_i e hu
   simp only [beq_iff_eq] at hc
   simp only at h3
   rcases hr with ⟨d,F',Fy,rfl,k⟩ | ⟨q,F',rfl,k,hq⟩
   ·split at h3
    ·rename_i k1 sz' xs e1
     cases e1
     split at h3
     ·rename_i hcond
      obtain ⟨rfl,hkx⟩:=hcond
      split at h3
      ·rename_i dd hdd
       cases h3
       have hlt:n.toNat < xs.length:=by rw [List.getElem?_eq_some_iff] at hdd; exact hdd.1
       rcases l_inv k.ex with ⟨rfl,_,_⟩ | ⟨rfl,_⟩ | ⟨b,o1,cap,us,G,ev,hcap,hs,h1c,hcc,hk⟩
       ·simp at hlt
       ·simp at hlt
       ·have him:G=[] ∧ ∀ (j:Nat) (u:Value),us[j]? = some u → g.im b (o1 + j)=some u:=by
         rcases hk with ⟨_,_,e2,_,e3⟩ | ⟨_,_,e2,_,_,e3⟩ | ⟨rfl,_⟩
         ·exact ⟨e2,e3⟩
         ·exact ⟨e2,e3⟩
         ·exact absurd rfl hkx
        obtain ⟨rfl,him⟩:=him
        have hsub:=sub_elem (fo:=0) (n:=sz') (ds:=dd.cells) hs hdd (by
         unfold sub
         rw [if_pos (by rw [hs dd (List.mem_of_getElem? hdd)]; omega)]
         rw [List.drop_zero,List.take_of_length_le (by rw [hs dd (List.mem_of_getElem? hdd)]; omega)])
        obtain ⟨A,_,hA,hr⟩:=hcc.part hsub
        have hA0:A=[] := by cases A with | nil=>rfl | cons y ys=>exact absurd (hA.subset (List.mem_cons_self)) (by simp)
        subst hA0
        have hrun:(execOp a.eval o).run P w=.ok (.value (.pointer (some ⟨b,o1 + n.toNat * sz',none⟩))) w:=by
         have hnl:n < (xs.length:Int):=by omega
         simp [execOp,hop,ev,hn,Instr.indexAt,asIntOf,underlying,hu,h0',hnl,run_sizeOf hc,add_addr]
        refine done_v hd hrun (k.drop ?_)
        have := RVs.q (im := g.im) (gl := g.gl) (w := w) dd.cells 0 b (o1 + n.toNat * sz') ((us.drop (n.toNat * sz' + 0)).take sz') (by
            intro j u hj
            rw [List.getElem?_take] at hj
            split at hj
            ·rw [List.getElem?_drop] at hj
             have:=him _ _ hj
             rw [show o1 + n.toNat * sz' + j=o1 + (n.toNat * sz' + 0 + j) by omega]; exact this
            ·cases hj) (fun v hv=>h1c v (List.mem_of_mem_drop (List.mem_of_mem_take hv))) hr .nil
        simpa using this
      ·cases h3
     ·cases h3
    ·simp [hpl] at h3
   ·split at h3
    ·rename_i e1; cases e1
    ·split at h3
     ·rename_i pl ac1 hpl1
      have hv:=hpl_hdr hpl1 hq
      split at h3
      ·rename_i sz' xs hat
       split at h3
       ·rename_i hcond
        obtain ⟨rfl,hlt⟩:=hcond
        cases h3
        obtain ⟨M,hM,_,_,_⟩:=k.place hat hv
        have hne:xs ≠ [] := by rintro rfl; simp at hlt
        obtain ⟨b,o1,cap,us,G,ev,_⟩:=x_inv hM hne
        have hrun:(execOp a.eval o).run P w=.ok (.value (.pointer (some ⟨b,o1 + n.toNat * sz',none⟩))) w:=by
         have hnl:n < (xs.length:Int):=by omega
         simp [execOp,hop,ev,hn,Instr.indexAt,asIntOf,underlying,hu,h0',hnl,run_sizeOf hc,add_addr]
        exact done_q hd hrun k ⟨b,o1,xs.length,cap,sz',xs,by rw [← ev]; exact hv,hat,hlt,by rw [Nat.add_zero]⟩
       ·cases h3
      ·cases h3
     ·cases h3
  ·cases hc
theorem Sm.froze {B g F s a w d v Fx} (h:Sm B g F s a w [d] [v] Fx):∃ g',Sm B g' F s a w [d.fz] [v] [] := by
 obtain ⟨im',hset,hr⟩:=h.ex.fz h.dj.ndx
 exact ⟨{ g with im:=im' },h.setx (Chg.set hset h.imok) (by simpa [D.fzs] using hr) List.nodup_nil (by simp)⟩
theorem o_ia {P B g F s a w Q o t sz len x y x' y' dst r s' ac OO meth} (h : Sm B g F s a w [] [] []) (hd : ∀ k, o.dst = some k → k < B.nt) (hop : o.op = .indexAddr t x' y')
    (hx:chkX x x'=true) (hy:chkX y y'=true) (hc:chkIaA P t sz len=true) (he:evO OO meth (.ia sz len x y) s dst=some (r,s',ac)):Done P B o a w Q s' r:=by
 simp only [evO] at he
 split at he
 ·rename_i r1 s1 h1
  split at he
  ·rename_i kk n s2 h2
   simp only [Option.map_eq_some_iff] at he
   obtain ⟨⟨r2,ac2⟩,h3,h4⟩:=he
   cases h4
   obtain ⟨hn,hr⟩:=rx_int h hx hy h1 h2
   rcases hr with ⟨d,F',Fy,rfl,k⟩ | ⟨q,F',rfl,k,hq⟩
   ·obtain ⟨g',k'⟩:=k.froze
    exact ia_core (g:=g') hd hop hc hn (.inl ⟨_,_,_,rfl,k'⟩) h3
   ·exact ia_core hd hop hc hn (.inr ⟨q,F',rfl,k,hq⟩) h3
  ·cases he
 ·cases he
def chkLen (P:Program) (t:TypeId) (str:Bool):Bool:=match P.underlying t with
 | some .string=>str
 | some (.slice _)=>!str
 | _=>false
theorem o_len {P B g F s a w Q o t str x x' dst r s' ac OO meth} (h : Sm B g F s a w [] [] []) (hd : ∀ k, o.dst = some k → k < B.nt) (hop : o.op = .call { callee := .builtin .len, args := #[x'], argTypes := #[t] })
    (hx:chkX x x'=true) (hc:chkLen P t str=true) (he:evO OO meth (.len str x) s dst=some (r,s',ac)):Done P B o a w Q s' r:=by
 simp only [evO] at he
 split at he
 ·rename_i r1 s1 h1
  simp only [Option.map_eq_some_iff] at he
  obtain ⟨⟨n,ac2⟩,h3,h4⟩:=he
  cases h4
  have hrunL:∀ b len cap e,a.eval x'=.slice b len cap → P.underlying t=some (.slice e) → (execOp a.eval o).run P w=.ok (.value (.int .i64 len)) w:=by
   intro b len cap e ev hu
   simp [execOp,hop,resolve,invoke,builtin,Builtin.len_,ev,underlying,hu,goInt]
  unfold chkLen at hc
  split at hc
  ·rename_i hu
   subst hc
   unfold lenv at h3
   simp only [if_true] at h3
   split at h3
   ·rename_i v
    cases h3
    rcases rx_sim h hx h1 with ⟨d,F',Fy,e,k⟩ | ⟨q,F',e,k,hq⟩
    ·cases e
     obtain ⟨A,hA⟩:=k.last
     have ev:=str_inv hA
     exact done_v (w':=w) hd (v:=.int .i64 v.size) (by simp [execOp,hop,resolve,invoke,builtin,Builtin.len_,ev,underlying,hu,goInt]) (k.drop (.i _ _ .nil))
    ·cases e
   ·cases h3
  ·rename_i e hu
   have hstr:str=false:=by simpa using hc
   subst hstr
   unfold lenv at h3
   simp only [Bool.false_eq_true,if_false] at h3
   split at h3
   ·rename_i k1 sz xs
    cases h3
    rcases rx_sim h hx h1 with ⟨d,F',Fy,e,k⟩ | ⟨q,F',e,k,hq⟩
    ·cases e
     obtain ⟨A,hA⟩:=k.last
     rcases l_inv hA with ⟨rfl,ev,_⟩ | ⟨rfl,_,_,x,cap,_,ev⟩ | ⟨b,o1,cap,us,G,ev,_⟩
     ·exact done_v (w':=w) hd (v:=.int .i64 0) (by simpa using hrunL _ _ _ _ ev hu) (k.drop (.i _ _ .nil))
     ·exact done_v (w':=w) hd (v:=.int .i64 0) (by simpa using hrunL _ _ _ _ ev hu) (k.drop (.i _ _ .nil))
     ·exact done_v (w':=w) hd (v:=.int .i64 xs.length) (hrunL _ _ _ _ ev hu) (k.drop (.i _ _ .nil))
    ·cases e
   ·rename_i pl
    split at h3
    ·rename_i sz xs hat
     cases h3
     rcases rx_sim h hx h1 with ⟨d,F',Fy,e,k⟩ | ⟨q,F',e,k,hq⟩
     ·cases e
     ·cases e
      obtain ⟨M,hM,_⟩:=k.place hat hq
      rcases l_inv hM with ⟨rfl,ev,_⟩ | ⟨rfl,_,_,x,cap,_,ev⟩ | ⟨b,o1,cap,us,G,ev,_⟩
      ·exact done_v (w':=w) hd (v:=.int .i64 0) (by simpa using hrunL _ _ _ _ ev hu) (k.drop (.i _ _ .nil))
      ·exact done_v (w':=w) hd (v:=.int .i64 0) (by simpa using hrunL _ _ _ _ ev hu) (k.drop (.i _ _ .nil))
      ·exact done_v (w':=w) hd (v:=.int .i64 xs.length) (hrunL _ _ _ _ ev hu) (k.drop (.i _ _ .nil))
    ·cases h3
   ·rename_i kk
    split at h3
    ·rename_i sz xs hat
     cases h3
     rcases rx_sim h hx h1 with ⟨d,F',Fy,e,k⟩ | ⟨q,F',e,k,hq⟩
     ·cases e
     ·cases e
      have hv:plHdr g w (.ob kk 0) (a.eval x'):=by
       have hq':g.lc kk=some (.inr (a.eval x')):=hq
       simp [plHdr,hq']
      obtain ⟨M,hM,_⟩:=k.place hat hv
      rcases l_inv hM with ⟨rfl,ev,_⟩ | ⟨rfl,_,_,x,cap,_,ev⟩ | ⟨b,o1,cap,us,G,ev,_⟩
      ·exact done_v (w':=w) hd (v:=.int .i64 0) (by simpa using hrunL _ _ _ _ ev hu) (k.drop (.i _ _ .nil))
      ·exact done_v (w':=w) hd (v:=.int .i64 0) (by simpa using hrunL _ _ _ _ ev hu) (k.drop (.i _ _ .nil))
      ·exact done_v (w':=w) hd (v:=.int .i64 xs.length) (hrunL _ _ _ _ ev hu) (k.drop (.i _ _ .nil))
    ·cases h3
   ·cases h3
  ·cases hc
 ·cases he
def chkSl (P:Program) (t:TypeId) (sz:Nat):Bool:=match P.underlying t with
 | some (.slice e)=>szT P e == some sz
 | _=>false
theorem part_rv {im gl w sz xs us G l h} (hs : ∀ x ∈ xs, x.cells.length = sz) (hc : RVs im gl w (cellsOf xs) us G) (hlh : l ≤ h) (hh : h ≤ xs.length) :
    ∃ A,A.Sublist G ∧ RVs im gl w (cellsOf ((xs.take h).drop l)) ((us.drop (l * sz)).take ((h - l) * sz)) A:=by
 have e1:sub (cellsOf xs) (l * sz) ((h - l) * sz)=some (cellsOf ((xs.take h).drop l)):=by
  have hl:=cellsOf_length hs
  have e:xs=xs.take l ++ ((xs.take h).drop l ++ xs.drop h):=by
   rw [← List.append_assoc]
   have:xs.take l=(xs.take h).take l:=by rw [List.take_take,Nat.min_eq_left hlh]
   rw [this,List.take_append_drop,List.take_append_drop]
  have l1:(cellsOf (xs.take l)).length=l * sz:=by rw [cellsOf_length (fun x hx=>hs x (List.mem_of_mem_take hx)),List.length_take,Nat.min_eq_left (by omega)]
  have l2:(cellsOf ((xs.take h).drop l)).length=(h - l) * sz:=by rw [cellsOf_length (fun x hx=>hs x (List.mem_of_mem_take (List.mem_of_mem_drop hx))),List.length_drop,List.length_take,Nat.min_eq_left hh]
  unfold sub
  have h3:l * sz + (h - l) * sz ≤ xs.length * sz:=by rw [← Nat.add_mul]; exact Nat.mul_le_mul_right _ (by omega)
  rw [if_pos (by omega)]
  congr 1
  conv=>lhs; rw [e]
  rw [cellsOf_append,cellsOf_append,← l1,List.drop_left,← l2,List.take_left]
 obtain ⟨A,_,hA,hr⟩:=hc.part e1
 exact ⟨A,hA,hr⟩
theorem sl_res {im : Nat → Nat → Option Value} {gl : Nat → Option (Nat × Bool)} {w : World} {k k2 : K} {sz : Nat} {xs : List D} {b o1 cap : Nat} {us : List Value} {G F : List Nat} {l h m o2 : Nat} (hs : ∀ x ∈ xs, x.cells.length = sz) (h1c : ∀ v ∈ us, v.oneCell' = true) (hcc : RVs im gl w (cellsOf xs) us G)
    (hk : (∃ hk : k = .z ∨ k = .n, F = [] ∧ G = [] ∧ (k = .n → cap = xs.length) ∧ ∀ (j : Nat) (u : Value), us[j]? = some u → im b (o1 + j) = some u) ∨
       (k=.o ∧ F=[b] ∧ G=[] ∧ Room w b (o1 + cap * sz) ∧ (∀ j,o1 + xs.length * sz ≤ j → im b j=none) ∧ ∀ (j:Nat) (u:Value),us[j]? = some u → im b (o1 + j)=some u) ∨
       (k=.x ∧ F=b :: G ∧ Room w b (o1 + cap * sz) ∧ (∀ j,im b j=none) ∧ ∀ (j:Nat) (u:Value),us[j]? = some u → w.cell? ⟨b,o1 + j,none⟩=some u))
    (hlh:l ≤ h) (hh:h ≤ xs.length) (hm:h ≤ m) (hmc:m ≤ cap) (ho2:(m=l ∧ o2=o1) ∨ o2=o1 + l * sz)
    (hk2:(k ≠ .x ∧ k2=.z) ∨ (k ≠ .x ∧ k2=.n ∧ m=h) ∨ (k=.o ∧ k2=.o ∧ l=0 ∧ h=xs.length ∧ m=cap) ∨ (k=.x ∧ k2=.x)) :
    ∃ A,A.Sublist F ∧ RVs im gl w [.l k2 sz ((xs.take h).drop l)] [.slice (some ⟨b,o2,none⟩) (h - l) (m - l)] A:=by
 obtain ⟨A,hA,hpr⟩:=part_rv hs hcc hlh hh
 have hpl:((xs.take h).drop l).length=h - l:=by simp; omega
 have hps:∀ x ∈ (xs.take h).drop l,x.cells.length=sz:=fun x hx=>hs x (List.mem_of_mem_take (List.mem_of_mem_drop hx))
 have hp1:∀ v ∈ (us.drop (l * sz)).take ((h - l) * sz),v.oneCell'=true:=fun v hv=>h1c v (List.mem_of_mem_drop (List.mem_of_mem_take hv))
 have hget:∀ (j:Nat) (u:Value),((us.drop (l * sz)).take ((h - l) * sz))[j]? = some u → us[l * sz + j]? = some u ∧ o2=o1 + l * sz:=by
  intro j u hj
  rw [List.getElem?_take] at hj
  split at hj
  ·rename_i hjl
   rw [List.getElem?_drop] at hj
   refine ⟨hj,?_⟩
   rcases ho2 with ⟨e,_⟩ | e
   ·have:h - l=0:=by omega
    rw [this] at hjl; omega
   ·exact e
  ·cases hj
 have hroom:Room w b (o1 + cap * sz) → Room w b (o2 + (m - l) * sz):=by
  rintro ⟨c,t,f,r1,r2,r3⟩
  refine ⟨c,t,f,r1,?_,r3⟩
  rcases ho2 with ⟨e,rfl⟩ | rfl
  ·rw [e]; simp; omega
  ·have:l * sz + (m - l) * sz ≤ cap * sz:=by rw [← Nat.add_mul]; exact Nat.mul_le_mul_right _ (by omega)
   omega
 have him:k ≠ .x → G=[] ∧ ∀ (j:Nat) (u:Value),us[j]? = some u → im b (o1 + j)=some u:=by
  intro hx
  rcases hk with ⟨_,_,e2,_,e3⟩ | ⟨_,_,e2,_,_,e3⟩ | ⟨e,_⟩
  ·exact ⟨e2,e3⟩
  ·exact ⟨e2,e3⟩
  ·exact absurd e hx
 have hz:k ≠ .x → ∀ kk:K,kk=.z ∨ kk=.n → (kk=.n → m - l=h - l) → ∃ A,A.Sublist F ∧ RVs im gl w [.l kk sz ((xs.take h).drop l)] [.slice (some ⟨b,o2,none⟩) (h - l) (m - l)] A:=by
  intro hx kk hkk hn
  obtain ⟨rfl,hu⟩:=him hx
  have hA0:A=[] := by cases A with | nil=>rfl | cons y ys=>exact absurd (hA.subset (List.mem_cons_self)) (by simp)
  subst hA0
  have:=RVs.lz (gl:=gl) (w:=w) kk hkk sz ((xs.take h).drop l) b o2 (m - l) _ (by omega) (by rw [hpl]; exact hn) hps (fun j v hj=>by obtain ⟨e1,e2⟩:=hget j v hj; rw [e2,Nat.add_assoc]; exact hu _ _ e1) hp1 hpr .nil
  rw [hpl] at this
  exact ⟨[],List.nil_sublist _,this⟩
 rcases hk2 with ⟨hx,rfl⟩ | ⟨hx,rfl,e⟩ | ⟨rfl,rfl,rfl,rfl,rfl⟩ | ⟨rfl,rfl⟩
 ·exact hz hx .z (.inl rfl) (by simp)
 ·exact hz hx .n (.inr rfl) (fun _=>by omega)
 ·rcases hk with ⟨hk,_⟩ | ⟨_,rfl,rfl,hr,hi,hu⟩ | ⟨e,_⟩
  ·rcases hk with e | e <;> cases e
  ·have e2:o2=o1:=by rcases ho2 with ⟨_,e⟩ | e; exact e; simpa using e
   subst e2
   have:=RVs.lo (im:=im) (gl:=gl) (w:=w) sz xs b o2 m us (by omega) hs hu h1c hr hi hcc .nil
   exact ⟨[b],List.Sublist.refl _,by simpa using this⟩
  ·cases e
 ·rcases hk with ⟨hk,_⟩ | ⟨e,_⟩ | ⟨_,rfl,hr,hi,hu⟩
  ·rcases hk with e | e <;> cases e
  ·cases e
  ·have:=RVs.lx (im:=im) (gl:=gl) (w:=w) sz ((xs.take h).drop l) b o2 (m - l) _ (by omega) hps (fun j v hj=>by obtain ⟨e1,e2⟩:=hget j v hj; rw [e2,Nat.add_assoc]; exact hu _ _ e1) hp1 (hroom hr) hi hpr .nil
   rw [hpl] at this
   exact ⟨b :: A,hA.cons_cons b,by simpa using this⟩
theorem o_sl {P B g F s a w Q o t sz x x' lo hi mx lo' hi' mx' dst r s' ac OO meth} (h : Sm B g F s a w [] [] []) (hd : ∀ k, o.dst = some k → k < B.nt) (hop : o.op = .slice t x' lo' hi' mx')
    (hx:chkX x x'=true) (hl:chkO? lo lo'=true) (hh:chkO? hi hi'=true) (hm:chkO? mx mx'=true) (hc:chkSl P t sz=true) (he:evO OO meth (.sl sz x lo hi mx) s dst=some (r,s',ac)):Done P B o a w Q s' r:=by
 simp only [evO] at he
 split at he
 ·rename_i d s1 h1
  split at he
  ·rename_i l s2 h2
   split at he
   ·rename_i hv s3 h3
    split at he
    ·rename_i m s4 h4
     simp only [Option.map_eq_some_iff] at he
     obtain ⟨q,h5,h6⟩:=he
     cases h6
     obtain ⟨F1,Fx,k,klo,khi,khn⟩:=rx3_sim h hx hl hh h1 h2 h3
     have hmx:∃ F2 A,Sm B g F2 s' a w [d] [a.eval x'] A ∧ ((m=none ∧ mx'=none) ∨ ∃ e p,m=some e ∧ mx'=some p ∧ ∀ n dl tp,bnd (some e) dl tp=some n → ∃ kk,a.eval p=.int kk n ∧ n ≤ tp):=by
      rcases rxo_sim k hm h4 with ⟨_,rfl,rfl,rfl⟩ | ⟨y,p,e,F2,Fz,rfl,_,rfl,k2⟩
      ·exact ⟨F1,Fx,k,.inl ⟨rfl,rfl⟩⟩
      ·obtain ⟨A,C,eF,hA,hC⟩:=Sm.two (by simpa using k2)
       have hn:=k2.dj.ndx
       rw [eF] at hn
       refine ⟨F2,A,k2.weaken _ _ A hA (fun b hb=>by rw [eF]; simp [hb]) (List.nodup_append.1 hn).1,.inr ⟨e,p,rfl,rfl,fun n dl tp hb=>?_⟩⟩
       obtain ⟨kk,rfl,hle⟩:=bnd_some hb
       exact ⟨kk,int_inv hC,hle⟩
     obtain ⟨F2,A,k2,hmx⟩:=hmx
     unfold chkSl at hc
     split at hc
     ·rename_i e hu
      simp only [beq_iff_eq] at hc
      unfold slv at h5
      split at h5
      ·rename_i k1 sz' xs
       split at h5
       ·rename_i hsz; subst hsz
        have hrun : ∀ (b : Option Addr) (cap lb hb mb : Nat), a.eval x' = .slice b xs.length cap → (Instr.sliceBounds true xs.length cap (lo'.map a.eval) (hi'.map a.eval) (mx'.map a.eval)).run P w = .ok (lb, hb, mb) w →
            (execOp a.eval o).run P w=.ok (.value (.slice (if mb=lb then b else b.map (·.add (lb * sz'))) (hb - lb) (mb - lb))) w:=by
         intro b cap lb hb mb ev hbd
         simp [execOp,hop,Instr.sliceAt,Instr.slice,underlying,hu,ev,hbd,run_sizeOf hc]
        split at h5
        ·rcases hmx with ⟨_,rfl⟩ | ⟨e,p,e1,_⟩
         ·split at h5
          ·rename_i hb eh
           split at h5
           ·rename_i lb el
            cases h5
            have hhb:=khi _ _ _ eh
            have hlb:=klo _ _ _ el
            have hle:hb ≤ xs.length:=by rcases hhb with ⟨_,rfl⟩ | ⟨_,_,_,_,hle⟩ <;> omega
            have hll:lb ≤ hb:=by rcases hlb with ⟨_,rfl⟩ | ⟨_,_,_,_,hle⟩ <;> omega
            rcases l_inv k2.ex with ⟨rfl,ev,rfl⟩ | ⟨rfl,hkz,rfl,x0,cap,hnz,ev⟩ | ⟨b,o1,cap,us,G,ev,hcap,hs,h1c,hcc,hk⟩
            ·have h0:hb=0:=by simpa using hle
             subst h0
             have h0':lb=0:=by omega
             subst h0'
             have hbd:=bounds_sim (P:=P) (w:=w) (a:=a) (isS:=true) (len:=0) (cap:=0) (by simpa using hhb) hlb
             have:=hrun none 0 0 0 0 (by simpa using ev) (by simpa using hbd)
             exact done_v (w':=w) hd (v:=.slice none 0 0) (by simpa using this) (k2.drop (by simpa using RVs.lnil _ _ .nil))
            ·have h0:hb=0:=by simpa using hle
             subst h0
             have h0':lb=0:=by omega
             subst h0'
             have hbd:=bounds_sim (P:=P) (w:=w) (a:=a) (isS:=true) (len:=0) (cap:=cap) (by simpa using hhb) hlb
             have:=hrun (some x0) cap 0 0 cap (by simpa using ev) (by simpa using hbd)
             obtain ⟨x1,ex⟩:∃ x1,(if cap=0 then (some x0:Option Addr) else (some x0:Option Addr).map (·.add (0 * sz')))=some x1:=by
              split <;> exact ⟨_,rfl⟩
             rw [ex] at this
             have hsk:slk k1 hv.isNone l.isNone=.z ∨ (slk k1 hv.isNone l.isNone=.n ∧ k1=.n):=by
              rcases hkz with rfl | rfl
              ·exact .inl rfl
              ·simp only [slk]
               cases hv.isNone <;> simp
             exact done_v (w':=w) hd (v:=.slice (some x1) 0 cap) (by simpa using this) (k2.drop (by simpa using RVs.lez _ (by rcases hsk with h | ⟨h,_⟩; exact .inl h; exact .inr h) _ x1 cap (fun e=>by rcases hsk with h | ⟨_,h⟩; (rw [h] at e; cases e); exact hnz h) .nil))
            ·have hbd:=bounds_sim (P:=P) (w:=w) (a:=a) (isS:=true) (len:=xs.length) (cap:=cap) (lo:=lo') (hi:=hi') (l:=lb) (h:=hb)
              (by rcases hhb with hh1 | ⟨p,kk,e1,e2,e3⟩; exact .inl hh1; exact .inr ⟨p,kk,e1,e2,by omega⟩) hlb
             have hr2:=hrun (some ⟨b,o1,none⟩) cap lb hb cap ev hbd
             obtain ⟨o2,eo,ho2⟩:∃ o2,(if cap=lb then some (⟨b,o1,none⟩:Addr) else (some (⟨b,o1,none⟩:Addr)).map (·.add (lb * sz')))=some ⟨b,o2,none⟩ ∧ ((cap=lb ∧ o2=o1) ∨ o2=o1 + lb * sz'):=by
              split
              ·rename_i e; exact ⟨o1,rfl,.inl ⟨e,rfl⟩⟩
              ·exact ⟨o1 + lb * sz',by simp [add_addr],.inr rfl⟩
             rw [eo] at hr2
             have hk2:=sl_res (k2:=slk k1 hv.isNone l.isNone) (l:=lb) (h:=hb) (m:=cap) (o2:=o2) hs h1c hcc hk hll hle (by omega) (Nat.le_refl _) ho2 (by
              have hfull:hv.isNone=true → hb=xs.length:=by
               intro e
               cases hv with
               | none=>simp [bnd] at eh; omega
               | some _=>simp at e
              have hnull:l.isNone=true → lb=0:=by
               intro e
               cases l with
               | none=>simp [bnd] at el; omega
               | some _=>simp at e
              cases k1
              ·exact .inl ⟨by simp,rfl⟩
              ·rcases Bool.eq_false_or_eq_true hv.isNone with e | e
               ·rcases hk with ⟨_,_,_,hn,_⟩ | ⟨e',_⟩ | ⟨e',_⟩
                ·exact .inr (.inl ⟨by simp,by simp [slk,e],by rw [hn rfl,hfull e]⟩)
                ·cases e'
                ·cases e'
               ·exact .inl ⟨by simp,by simp [slk,e]⟩
              ·rcases Bool.eq_false_or_eq_true (hv.isNone && l.isNone) with e | e
               ·rw [Bool.and_eq_true] at e
                exact .inr (.inr (.inl ⟨rfl,by simp [slk,e.1,e.2],hnull e.2,hfull e.1,rfl⟩))
               ·exact .inl ⟨by simp,by simp only [slk,e]; rfl⟩
              ·exact .inr (.inr (.inr ⟨rfl,rfl⟩)))
             obtain ⟨A',hA',hres⟩:=hk2
             exact done_v (w':=w) hd hr2 (k2.weaken _ _ A' hres hA'.subset (hA'.nodup k2.dj.ndx))
           ·cases h5
          ·cases h5
         ·cases e1
        ·rename_i me
         rcases hmx with ⟨e1,_⟩ | ⟨e,p,e1,rfl,hmp⟩
         ·cases e1
         ·cases e1
          split at h5
          ·rename_i mb em
           split at h5
           ·cases h5
           ·rename_i hv1
            split at h5
            ·rename_i hb eh
             split at h5
             ·rename_i ehm
              subst ehm
              split at h5
              ·rename_i lb el
               have hxx:k1 ≠ .x ∧ q=.l .n sz' ((xs.take hb).drop lb):=by
                cases k1 <;> first | (cases h5; exact ⟨by simp,rfl⟩) | cases h5
               obtain ⟨hkx,rfl⟩:=hxx
               obtain ⟨kk,evm,hml⟩:=hmp _ _ _ em
               have hhb:=khi _ _ _ eh
               have hlb:=klo _ _ _ el
               have hll:lb ≤ hb:=by rcases hlb with ⟨_,rfl⟩ | ⟨_,_,_,_,hle⟩ <;> omega
               obtain ⟨ph,kh,rfl,evh,_⟩:∃ ph kh,hi'=some ph ∧ a.eval ph=.int kh hb ∧ hb ≤ hb:=by
                rcases hhb with ⟨e,_⟩ | hh1
                ·have:=khn.2 e; cases this
                ·exact hh1
               have hrunm : ∀ (b : Option Addr) (cap : Nat), a.eval x' = .slice b xs.length cap → xs.length ≤ cap →
                   (execOp a.eval o).run P w=.ok (.value (.slice (if hb=lb then b else b.map (·.add (lb * sz'))) (hb - lb) (hb - lb))) w:=by
                intro b cap ev hcap
                refine hrun b cap lb hb hb ev ?_
                have e1:=fun c=>run_sliceBound (P:=P) (w:=w) (c:=c) (k:=kk) (l:=hb) (t:=cap) (show a.eval p=_ from evm) (by omega)
                have e2:=fun c=>run_sliceBound (P:=P) (w:=w) (c:=c) (k:=kh) (l:=hb) (t:=hb) (show a.eval ph=_ from evh) (Nat.le_refl _)
                rcases hlb with ⟨rfl,rfl⟩ | ⟨q,k',rfl,e',hle'⟩
                ·simp [Instr.sliceBounds,e1,e2]
                ·simp [Instr.sliceBounds,e1,e2,run_sliceBound e' hle']
               rcases l_inv k2.ex with ⟨rfl,ev,rfl⟩ | ⟨rfl,hkz,rfl,x0,cap,hnz,ev⟩ | ⟨b,o1,cap,us,G,ev,hcap,hs,h1c,hcc,hk⟩
               ·have h0:hb=0:=by simpa using hml
                subst h0
                have h0':lb=0:=by omega
                subst h0'
                have:=hrunm none 0 (by simpa using ev) (by simp)
                exact done_v (w':=w) hd (v:=.slice none 0 0) (by simpa using this) (k2.drop (by simpa using RVs.lnil _ _ .nil))
               ·have h0:hb=0:=by simpa using hml
                subst h0
                have h0':lb=0:=by omega
                subst h0'
                have:=hrunm (some x0) cap (by simpa using ev) (by simp)
                exact done_v (w':=w) hd (v:=.slice (some x0) 0 0) (by simpa using this) (k2.drop (by simpa using RVs.lez .n (.inr rfl) _ x0 0 (fun _=>rfl) .nil))
               ·have hr2:=hrunm (some ⟨b,o1,none⟩) cap ev hcap
                obtain ⟨o2,eo,ho2⟩:∃ o2,(if hb=lb then (some (⟨b,o1,none⟩:Addr)) else (some (⟨b,o1,none⟩:Addr)).map (·.add (lb * sz')))=some ⟨b,o2,none⟩ ∧ ((hb=lb ∧ o2=o1) ∨ o2=o1 + lb * sz'):=by
                 split
                 ·rename_i e; exact ⟨o1,rfl,.inl ⟨e,rfl⟩⟩
                 ·exact ⟨o1 + lb * sz',by simp [add_addr],.inr rfl⟩
                rw [eo] at hr2
                obtain ⟨A',hA',hres⟩:=sl_res (k2:=.n) (l:=lb) (h:=hb) (m:=hb) (o2:=o2) hs h1c hcc hk hll hml (Nat.le_refl _) (by omega) ho2 (.inr (.inl ⟨hkx,rfl,rfl⟩))
                exact done_v (w':=w) hd hr2 (k2.weaken _ _ A' hres hA'.subset (hA'.nodup k2.dj.ndx))
              ·cases h5
             ·cases h5
            ·cases h5
          ·cases h5
       ·cases h5
      ·cases h5
     ·cases hc
    ·cases he
   ·cases he
  ·cases he
 ·cases he
end Go.AM

namespace Go.AM
section
variable {P:Program} {w:World} {t t2 ty e e2:TypeId} {i:TypeInfo}
theorem run_app_fit (ht : P.underlying t = some (.slice e)) (hi : P.info? e = some i) (ht2 : P.underlying t2 = some (.slice e2) ∨ P.underlying t2 = some .string) {x : Value} {n : Nat} {news : List Value}
    (hlen:∀ w,(Builtin.lenOf x).run P w=.ok n w) (hf:(Builtin.firstCells i.size n x).run P w=.ok news.toArray w) {b o1 sLen sCap:Nat} (hroom:sLen + n ≤ sCap)
    (hc:∀ j,j < news.length → (w.cell? ⟨b,o1 + sLen * i.size + j,none⟩).isSome=true) (hfz:∀ j,j < news.length → w.frozen? ⟨b,o1 + sLen * i.size + j,none⟩=false) (h1:∀ u ∈ news,u.oneCell'=true) :
    (Builtin.append_ #[t,t2] ty #[.slice (some ⟨b,o1,none⟩) sLen sCap,x]).run P w=.ok (.slice (some ⟨b,o1,none⟩) (sLen + n) sCap) (w.setCells b (o1 + sLen * i.size) news):=by
 have hst:=run_storeCells_cells (P:=P) b (o1 + sLen * i.size) news 0 w (by simpa using hc) (by simpa using hfz) h1
 simp only [Nat.add_zero] at hst
 rcases ht2 with ht2 | ht2 <;>
  simp [Builtin.append_,run_underlying ht,run_underlying ht2,sizeOf,typeInfo,hi,hlen,hroom,hf,add_addr,hst]
theorem run_app_nil (ht : P.underlying t = some (.slice e)) (hi : P.info? e = some i) (ht2 : P.underlying t2 = some (.slice e2) ∨ P.underlying t2 = some .string) {x : Value} {news : List Value}
    (hlen:∀ w,(Builtin.lenOf x).run P w=.ok 0 w) (hf:(Builtin.firstCells i.size 0 x).run P w=.ok news.toArray w) :
    (Builtin.append_ #[t,t2] ty #[.slice none 0 0,x]).run P w=.ok (.slice none 0 0) w:=by
 rcases ht2 with ht2 | ht2 <;>
  simp [Builtin.append_,run_underlying ht,run_underlying ht2,sizeOf,typeInfo,hi,hlen,hf]
theorem run_app_none (ht : P.underlying t = some (.slice e)) (hi : P.info? e = some i) (ht2 : P.underlying t2 = some (.slice e2) ∨ P.underlying t2 = some .string) {x : Value} {cap : Nat} (b : Addr)
    (hlen:∀ w,(Builtin.lenOf x).run P w=.ok 0 w) (hf:(Builtin.firstCells i.size 0 x).run P w=.ok #[] w) :
    (Builtin.append_ #[t,t2] ty #[.slice (some b) 0 cap,x]).run P w=.ok (.slice (some b) 0 cap) w:=by
 have hst:∀ a,(storeCells a [] 0).run P w=.ok () w:=fun _=>rfl
 rcases ht2 with ht2 | ht2 <;>
  simp [Builtin.append_,run_underlying ht,run_underlying ht2,sizeOf,typeInfo,hi,hlen,hf,hst]
theorem run_app_grow (ht : P.underlying t = some (.slice e)) (hi : P.info? e = some i) {z : Value} (hz : i.zero = some z) (ht2 : P.underlying t2 = some (.slice e2) ∨ P.underlying t2 = some .string) {x : Value} {n sLen sCap : Nat} {base : Option Addr} {olds news : List Value}
    (hlen:∀ w,(Builtin.lenOf x).run P w=.ok n w) (hfo:(Builtin.firstCells i.size sLen (.slice base sLen sCap)).run P w.drew=.ok olds.toArray w.drew) (hf:(Builtin.firstCells i.size n x).run P w.drew=.ok news.toArray w.drew)
    (hg:sCap < sLen + n) (hb0:i.bytes ≠ 0) (hb:(sLen + n) * i.bytes ≤ 140737488355328) :
    (Builtin.append_ #[t,t2] ty #[.slice base sLen sCap,x]).run P w =
     .ok (.slice (some ⟨w.heap.size,0,none⟩) (sLen + n) (grownCap w (sLen + n) sCap e)) (w.drew.alloc (.cells ((olds ++ news).toArray ++ Builtin.zeroCells z.cells (grownCap w (sLen + n) sCap e - (sLen + n))) e)):=by
 have hfit:=growslice_fits hg hb
 have hroom:¬ (sLen + n ≤ sCap):=by omega
 have h48:¬ (281474976710656 < Builtin.nextslicecap (sLen + n) sCap * i.bytes):=by omega
 have hnp:n + sLen ≠ 0:=by omega
 rcases ht2 with ht2 | ht2 <;>
  simp [Builtin.append_,run_underlying ht,run_underlying ht2,sizeOf,typeInfo,zeroValue,hi,hz,hlen,hroom,h48,hb0,run_askRoom,Question.forced,hf,newRow,grownCap,hfo] <;> rw [← Array.append_assoc] <;> simp
end
end Go.AM

namespace Go.AM
theorem cps_join:∀ {a b x y:List D},D.cps a=some x → D.cps b=some y → D.cps (a ++ b)=some (x ++ y)
 | [],b,x,y,h,h'=>by cases h; exact h'
 | d :: a,b,x,y,h,h'=>by
  simp only [List.cons_append,D.cps] at h ⊢
  split at h
  ·rename_i d' r e1 e2
   cases h
   rw [cps_join e2 h']; simp [e1]
  ·cases h
theorem cp_cells {d d':D} (h:d.cp=some d'):D.cps d.cells=some d'.cells:=by
 cases d <;> try (simp only [D.cp] at h; cases h <;> simp [D.cells,D.cps,D.cp]; done)
 ·rename_i k sz xs
  cases k <;> simp only [D.cp] at h <;> cases h <;> simp [D.cells,D.cps,D.cp]
 ·rename_i cs
  simp only [D.cp,Option.map_eq_some_iff] at h
  obtain ⟨cs',h1,rfl⟩:=h
  exact h1
 ·rename_i cs
  simp only [D.cp,Option.map_eq_some_iff] at h
  obtain ⟨cs',h1,rfl⟩:=h
  simp [D.cells,D.cps,D.cp,h1]
theorem cps_length:∀ {a b:List D},D.cps a=some b → b.length=a.length
 | [],b,h=>by cases h; rfl
 | d :: a,b,h=>by
  simp only [D.cps] at h
  split at h
  ·rename_i d' r e1 e2
   cases h
   simp [cps_length e2]
  ·cases h
theorem cps_cellsOf:∀ {xs ys:List D},D.cps xs=some ys → D.cps (cellsOf xs)=some (cellsOf ys) ∧ (∀ sz,(∀ x ∈ xs,x.cells.length=sz) → ∀ y ∈ ys,y.cells.length=sz)
 | [],ys,h=>by cases h; exact ⟨rfl,by simp⟩
 | d :: xs,ys,h=>by
  simp only [D.cps] at h
  split at h
  ·rename_i d' r e1 e2
   cases h
   obtain ⟨h1,h2⟩:=cps_cellsOf e2
   refine ⟨by simpa [cellsOf] using cps_join (cp_cells e1) h1,?_⟩
   intro sz hs y hy
   rcases List.mem_cons.1 hy with rfl | hy
   ·rw [cps_length (cp_cells e1)]; exact hs d (by simp)
   ·exact h2 sz (fun x hx=>hs x (by simp [hx])) y hy
  ·cases h
theorem fzs_cellsOf:∀ (xs:List D),cellsOf (D.fzs xs)=D.fzs (cellsOf xs)
 | [] => rfl
 | d :: xs=>by
  have ih:=fzs_cellsOf xs
  simp only [D.fzs,cellsOf,List.flatMap_cons] at ih ⊢
  rw [ih,fzs_cells,fzs_append]
theorem elems_sim {B g F s a w ds vs Fx y y' r s1 sz ys} (h : Sm B g F s a w ds vs Fx) (hy : chkX y y' = true) (h1 : rx y s = some (r, s1)) (h2 : elems s1 r = some (sz, ys)) :
    ∃ F' us Fx',Sm B g F' s1 a w (ds ++ cellsOf ys) (vs ++ us) Fx' ∧ (∀ x ∈ ys,x.cells.length=sz) ∧ (∀ u ∈ us,u.oneCell'=true) ∧ us.length=ys.length * sz ∧
     ((ys=[] ∧ a.eval y'=.slice none 0 0) ∨ (ys=[] ∧ ∃ x cap,a.eval y'=.slice (some x) 0 cap) ∨ ∃ b o cap,a.eval y'=.slice (some ⟨b,o,none⟩) ys.length cap ∧ ∀ (j:Nat) (u:Value),us[j]? = some u → w.cell? ⟨b,o + j,none⟩=some u):=by
 have pl : ∀ pl F', Sm B g F' s1 a w ds vs Fx → plHdr g w pl (a.eval y') → (match s1.at pl with | some (.l .x sz xs) => (D.cps xs).map (sz, ·) | _ => none) = some (sz, ys) →
     ∃ F' us Fx',Sm B g F' s1 a w (ds ++ cellsOf ys) (vs ++ us) Fx' ∧ (∀ x ∈ ys,x.cells.length=sz) ∧ (∀ u ∈ us,u.oneCell'=true) ∧ us.length=ys.length * sz ∧
     ((ys=[] ∧ a.eval y'=.slice none 0 0) ∨ (ys=[] ∧ ∃ x cap,a.eval y'=.slice (some x) 0 cap) ∨ ∃ b o cap,a.eval y'=.slice (some ⟨b,o,none⟩) ys.length cap ∧ ∀ (j:Nat) (u:Value),us[j]? = some u → w.cell? ⟨b,o + j,none⟩=some u):=by
  intro pl F' k hv hm
  split at hm
  ·rename_i sz' xs hat
   simp only [Option.map_eq_some_iff] at hm
   obtain ⟨zs,h3,h4⟩:=hm
   cases h4
   obtain ⟨M,hM,_⟩:=k.place hat hv
   obtain ⟨h5,h6⟩:=cps_cellsOf h3
   rcases l_inv hM with ⟨rfl,ev,_⟩ | ⟨rfl,hkz,_⟩ | ⟨b,o1,cap,us,G,ev,hcap,hs,h1c,hcc,hk⟩
   ·simp [D.cps] at h3; subst h3
    exact ⟨F',[],Fx,by simpa [cellsOf] using k,by simp,by simp,by simp,.inl ⟨rfl,ev⟩⟩
   ·rcases hkz with hk | hk <;> cases hk
   ·have hl:=cps_length h3
    have hr:=hcc.cp _ h5
    refine ⟨F',us,Fx,?_,h6 _ hs,h1c,?_,.inr (.inr ⟨b,o1,cap,by rw [hl]; exact ev,?_⟩)⟩
    ·exact k.weaken _ _ _ (by simpa using k.ex.append hr) (fun b hb=>hb) k.dj.ndx
    ·rw [← hcc.length,cellsOf_length hs,hl]
    ·rcases hk with ⟨hk,_⟩ | ⟨hk,_⟩ | ⟨_,_,_,_,hu⟩
     ·rcases hk with hk | hk <;> cases hk
     ·cases hk
     ·exact hu
  ·cases hm
 rcases rx_sim h hy h1 with ⟨d,F',Fy,rfl,k⟩ | ⟨q,F',rfl,k,hq⟩
 ·cases d <;> simp only [elems] at h2 <;> try (cases h2; done)
  rename_i k1 sz' xs
  cases h2
  obtain ⟨us',ts,A,C,e1,e2,l1,r1,r2⟩:=RVs.append_inv ds k.ex
  obtain ⟨v,rfl⟩:=r2.single
  have e3:=List.append_inj' e1 rfl
  obtain ⟨rfl,e4⟩:=e3
  cases e4
  have hnd:=k.dj.ndx
  rw [e2] at hnd
  rcases l_inv r2 with ⟨rfl,ev,rfl⟩ | ⟨rfl,_,rfl,x0,cap,_,ev⟩ | ⟨b,o1,cap,us,G,ev,hcap,hs,h1c,hcc,hk⟩
  ·exact ⟨F',[],A,by simpa [cellsOf] using k.weaken ds vs A r1 (fun b hb=>by rw [e2]; simp [hb]) (List.nodup_append.1 hnd).1,by simp,by simp,by simp,.inl ⟨rfl,ev⟩⟩
  ·exact ⟨F',[],A,by simpa [cellsOf] using k.weaken ds vs A r1 (fun b hb=>by rw [e2]; simp [hb]) (List.nodup_append.1 hnd).1,by simp,by simp,by simp,.inr (.inl ⟨rfl,x0,cap,ev⟩)⟩
  ·have hG:G.Sublist C ∧ ∀ (j:Nat) (u:Value),us[j]? = some u → w.cell? ⟨b,o1 + j,none⟩=some u:=by
    rcases hk with ⟨_,rfl,rfl,_,hu⟩ | ⟨_,rfl,rfl,_,_,hu⟩ | ⟨_,rfl,_,_,hu⟩
    ·exact ⟨List.Sublist.refl _,fun j u e=>k.imok _ _ _ (hu j u e)⟩
    ·exact ⟨List.nil_sublist _,fun j u e=>k.imok _ _ _ (hu j u e)⟩
    ·exact ⟨List.sublist_cons_self _ _,hu⟩
   refine ⟨F',us,A ++ G,k.weaken _ _ _ (r1.append hcc) (fun b hb=>?_) ((List.Sublist.append_left hG.1 A).nodup hnd),hs,h1c,?_,.inr (.inr ⟨b,o1,cap,ev,hG.2⟩)⟩
   ·rw [e2]
    exact (List.Sublist.append_left hG.1 A).subset hb
   ·rw [← hcc.length,cellsOf_length hs]
 ·cases q <;> simp only [elems] at h2 <;> try (cases h2; done)
  ·rename_i kk
   refine pl (.ob kk 0) F' k ?_ ?_
   ·have hq':g.lc kk=some (.inr (a.eval y')):=hq
    simp [plHdr,hq']
   ·revert h2; split
    ·rename_i sz' xs hat; intro h2
     have:=h2
     simp only [Option.map_eq_some_iff] at this
     obtain ⟨_,h3,h4⟩:=this
     cases h4
     simp [hat,h3]
    ·intro h2; cases h2
  ·rename_i pp
   refine pl pp F' k hq ?_
   revert h2; split
   ·rename_i sz' xs hat; intro h2
    have:=h2
    simp only [Option.map_eq_some_iff] at this
    obtain ⟨_,h3,h4⟩:=this
    cases h4
    simp [hat,h3]
   ·intro h2; cases h2
theorem row_read {c : Array Value} {us0 us : List Value} {o1 n0 : Nat} (hl : us0.length = n0) (hfit : o1 + n0 + us.length ≤ c.size) (hu : ∀ (j : Nat) (u : Value), us0[j]? = some u → c[o1 + j]? = some u) :
    ∀ (j:Nat) (u:Value),(us0 ++ us)[j]? = some u → (c.toList.take (o1 + n0) ++ us ++ c.toList.drop (o1 + n0 + us.length)).toArray[o1 + j]? = some u:=by
 intro j u hj
 simp only [List.getElem?_toArray]
 by_cases h:j < us0.length
 ·rw [List.getElem?_append_left h] at hj
  rw [List.append_assoc,List.getElem?_append_left (by simp; omega),List.getElem?_take,if_pos (by omega)]
  simpa using hu j u hj
 ·rw [List.getElem?_append_right (by omega)] at hj
  have:j - us0.length < us.length:=by rw [List.getElem?_eq_some_iff] at hj; exact hj.1
  rw [List.append_assoc,List.getElem?_append_right (by simp; omega),List.getElem?_append_left (by simp; omega)]
  rw [← hj]; congr 1; simp; omega
theorem row_old {c:Array Value} {us:List Value} {off j:Nat} (hfit:off + us.length ≤ c.size) (hj:j < off):(c.toList.take off ++ us ++ c.toList.drop (off + us.length)).toArray[j]? = c[j]? := by
 simp only [List.getElem?_toArray]
 rw [List.append_assoc,List.getElem?_append_left (by simp; omega),List.getElem?_take,if_pos hj]
 simp
def chkApp (P:Program) (t t2:TypeId) (str:Bool) (sz bytes:Nat):Bool:=match P.underlying t with
 | some (.slice e)=>(match P.info? e with
  | some i=>i.size == sz && i.bytes == bytes && bytes != 0 && (match i.zero with
   | some z=>z.cells.size == sz
   | none=>false)
  | none=>false) && (match P.underlying t2 with
   | some (.slice _)=>!str
   | some .string=>str
   | _=>false)
 | _=>false
theorem app_core {P B g F s a w k1 sz bytes xs ys v us Fx d x t t2 str ty} (k : Sm B g F s a w (.l k1 sz xs :: cellsOf ys) (v :: us) Fx) (hys : ∀ x ∈ ys, x.cells.length = sz) (hus : ∀ u ∈ us, u.oneCell' = true) (hlu : us.length = ys.length * sz)
    (hc:chkApp P t t2 str sz bytes=true) (hlen:∀ w,(Builtin.lenOf x).run P w=.ok ys.length w) (hf:∀ w':World,(∀ b:Nat,w'.heap[b]? = w.heap[b]?) → (Builtin.firstCells sz ys.length x).run P w'=.ok us.toArray w')
    (he:appv sz bytes (.l k1 sz xs) ys=some d) :
    ∃ g' v' w' Fx',(Builtin.append_ #[t,t2] ty #[v,x]).run P w=.ok v' w' ∧ Sm B g' F s a w' [d] [v'] Fx':=by
 unfold chkApp at hc
 split at hc
 ·rename_i e hu
  simp only [Bool.and_eq_true] at hc
  obtain ⟨hc,ht2⟩:=hc
  split at hc
  ·rename_i i hi
   simp only [Bool.and_eq_true,beq_iff_eq,bne_iff_ne] at hc
   obtain ⟨⟨⟨c1,c2⟩,c3⟩,c4⟩:=hc
   split at c4
   ·rename_i z hz
    simp only [beq_iff_eq] at c4
    have ht2':∃ e2,P.underlying t2=some (.slice e2) ∨ P.underlying t2=some .string:=by
     split at ht2
     ·rename_i e2 h2; exact ⟨e2,.inl h2⟩
     ·rename_i h2; exact ⟨e,.inr h2⟩
     ·cases ht2
    obtain ⟨e2,ht2'⟩:=ht2'
    subst c1 c2
    simp only [appv] at he
    split at he
    ·rename_i hb
     obtain ⟨_,hb⟩:=hb
     obtain ⟨v',us',A,C,e1,e2',r1,r2⟩:=RVs.cons_inv k.ex
     cases e1
     subst e2'
     have hnd:=k.dj.ndx
     have hndA:=(List.nodup_append.1 hnd).1
     have hndC:=(List.nodup_append.1 hnd).2.1
     have hf0:=hf w (fun _=>rfl)
     have hfd:=hf w.drew (fun _=>rfl)
     have grow : ∀ (sCap : Nat) (base : Option Addr) (olds : List Value) (K : List Nat), v = .slice base xs.length sCap → olds.length = xs.length * i.size → (∀ x ∈ xs, x.cells.length = i.size) → (∀ u ∈ olds, u.oneCell' = true) →
         (Builtin.firstCells i.size xs.length (.slice base xs.length sCap)).run P w.drew=.ok olds.toArray w.drew → g.rv w (cellsOf xs) olds K → K.Sublist A → sCap < xs.length + ys.length →
         ∃ v' w',(Builtin.append_ #[t,t2] ty #[v,x]).run P w=.ok v' w' ∧ Sm B g F s a w' [.l .x i.size (xs ++ ys)] [v'] (w.heap.size :: (K ++ C)) ∧ v'=.slice (some ⟨w.heap.size,0,none⟩) (xs.length + ys.length) (grownCap w (xs.length + ys.length) sCap e) ∧
          (∀ (j:Nat) (u:Value),(olds ++ us)[j]? = some u → w'.cell? ⟨w.heap.size,0 + j,none⟩=some u) ∧ (∀ b,b < w.heap.size → w'.heap[b]? = w.heap[b]?) ∧ Room w' w.heap.size (0 + grownCap w (xs.length + ys.length) sCap e * i.size):=by
      intro sCap base olds K ev hlo hxs ho1 hfo hrx hK hg
      have hrun:=run_app_grow (ty:=ty) (x:=x) (base:=base) hu hi hz ht2' hlen hfo hfd hg c3 hb
      have kd:=k.drew
      have hcapge:=grownCap_ge w (xs.length + ys.length) sCap e
      have hKC:(K ++ C).Sublist (A ++ C):=List.Sublist.append_right hK C
      have hrx':g.rv w.drew (cellsOf xs) olds K:=hrx.frame (fun _ _ _ e=>e) (fun _ _ e=>e) (fun _ _=>⟨fun _=>rfl,rfl⟩)
      have r2':g.rv w.drew (cellsOf ys) us C:=r2.frame (fun _ _ _ e=>e) (fun _ _ e=>e) (fun _ _=>⟨fun _=>rfl,rfl⟩)
      have k2:=kd.weaken (cellsOf (xs ++ ys)) (olds ++ us) (K ++ C) (by rw [cellsOf_append]; exact hrx'.append r2') (fun b hb=>hKC.subset hb) (hKC.nodup hnd)
      have hcell:∀ (j:Nat) (u:Value),(olds ++ us)[j]? = some u → ((olds ++ us).toArray ++ Builtin.zeroCells z.cells (grownCap w (xs.length + ys.length) sCap e - (xs.length + ys.length)))[j]? = some u:=by
       intro j u hj
       have hjl:j < (olds ++ us).length:=by rw [List.getElem?_eq_some_iff] at hj; exact hj.1
       rw [Array.getElem?_append_left (by simpa using hjl)]
       simpa using hj
      have hsize:((olds ++ us).toArray ++ Builtin.zeroCells z.cells (grownCap w (xs.length + ys.length) sCap e - (xs.length + ys.length))).size=grownCap w (xs.length + ys.length) sCap e * i.size:=by
       rw [Array.size_append,size_zeroCells,c4]
       simp only [List.size_toArray,List.length_append,hlo,hlu]
       rw [← Nat.add_mul,← Nat.add_mul]; congr 1; omega
      have k3:=k2.newx i.size (xs ++ ys) (olds ++ us) _ e (grownCap w (xs.length + ys.length) sCap e) k2.ex
       (fun u hu=>by rcases List.mem_append.1 hu with hu | hu; exact ho1 u hu; exact hus u hu) (fun y hy=>by rcases List.mem_append.1 hy with hy | hy; exact hxs y hy; exact hys y hy) hcell (by simpa using hcapge) (by omega)
      have hnew:=heap_alloc_new w.drew (.cells ((olds ++ us).toArray ++ Builtin.zeroCells z.cells (grownCap w (xs.length + ys.length) sCap e - (xs.length + ys.length))) e)
      refine ⟨_,_,by rw [ev]; exact hrun,by simpa using k3,rfl,?_,fun b hb=>heap_alloc_old w.drew _ b hb,?_⟩
      ·intro j u hj
       have:=cell_of_row _ w.heap.size (0 + j) _ _ _ hnew
       rw [Nat.zero_add] at this ⊢
       rw [this]; exact hcell j u hj
      ·exact ⟨_,e,(0,0),hnew,by omega,fun j hj=>frozen_of_row _ _ _ _ _ hnew,Nat.le_refl _⟩
     have growo : ∀ (sCap : Nat) (base : Option Addr) (olds : List Value), v = .slice base xs.length sCap → olds.length = xs.length * i.size → (∀ x ∈ xs, x.cells.length = i.size) → (∀ u ∈ olds, u.oneCell' = true) →
         (Builtin.firstCells i.size xs.length (.slice base xs.length sCap)).run P w.drew=.ok olds.toArray w.drew → g.rv w (cellsOf xs) olds [] → sCap < xs.length + ys.length →
         ∃ g' v' w' Fx',(Builtin.append_ #[t,t2] ty #[v,x]).run P w=.ok v' w' ∧ Sm B g' F s a w' [.l .o i.size (xs ++ D.fzs ys)] [v'] Fx':=by
      intro sCap base olds ev hlo hxs ho1 hfo hrx hg
      obtain ⟨v',w',hrun,k3,rfl,hcell,hold,hroom⟩:=grow sCap base olds [] ev hlo hxs ho1 hfo hrx (List.nil_sublist _) hg
      simp only [List.nil_append] at k3
      have hnw:w.heap.size ∉ C:=(List.nodup_cons.1 k3.dj.ndx).1
      have hCl:∀ b ∈ C,b < w.heap.size:=fun b hb=>(k.lt b (.inl (by simp [hb]))).1
      have r2':g.rv w' (cellsOf ys) us C:=r2.frame (fun _ _ _ e=>e) (fun _ _ e=>e) (fun c hc=>⟨fun _=>rfl,hold c (hCl c hc)⟩)
      obtain ⟨im1,hset1,r3⟩:=r2'.fz hndC
      have him1:∀ j,im1 w.heap.size j=none:=fun j=>(hset1.same _ hnw j).trans (k.imlt (Nat.le_refl _) j)
      obtain ⟨im2,hset2,q1,q2⟩:=Set.block w.heap.size 0 (olds ++ us) him1 hcell
      have hset:=hset1.trans hset2
      have hch:Chg B g { g with im:=im2 } w' w' (w.heap.size :: C):=Chg.set (hset.mono (fun b hb=>by rcases List.mem_append.1 hb with hb | hb; simp [hb]; simp at hb; simp [hb])) k3.imok
      have hrx':RVs im2 g.gl w' (cellsOf xs) olds [] := hrx.frame hset.keep (fun _ _ e=>e) (by simp)
      have r3':RVs im2 g.gl w' (cellsOf (D.fzs ys)) us [] := by rw [fzs_cellsOf]; exact r3.frame hset2.keep (fun _ _ e=>e) (by simp)
      have hcapge:=grownCap_ge w (xs.length + ys.length) sCap e
      have hx:=RVs.lo (im:=im2) (gl:=g.gl) (w:=w') i.size (xs ++ D.fzs ys) w.heap.size 0 (grownCap w (xs.length + ys.length) sCap e) (olds ++ us) (by simpa [fzs_length] using hcapge)
       (fun y hy=>by
        rcases List.mem_append.1 hy with hy | hy
        ·exact hxs y hy
        ·rw [fzs_map] at hy
         obtain ⟨y0,h0,rfl⟩:=List.mem_map.1 hy
         rw [fzs_cells,fzs_length]; exact hys y0 h0) q1 (fun u hu=>by rcases List.mem_append.1 hu with hu | hu; exact ho1 u hu; exact hus u hu) hroom
       (fun j hj=>q2 j (by simp only [List.length_append,hlo,hlu,fzs_length] at hj ⊢; rw [← Nat.add_mul]; exact hj)) (by rw [cellsOf_append]; exact hrx'.append r3') .nil
      refine ⟨_,_,w',[w.heap.size],hrun,k3.setx hch (by simpa [fzs_length] using hx) (by simp) (by simp)⟩
     rcases l_inv r1 with ⟨rfl,ev,rfl⟩ | ⟨rfl,hkz,rfl,x0,cap,hnz,ev⟩ | ⟨b,o1,cap,us0,G,ev,hcap,hs,h1c,hcc,hk⟩
     ·by_cases hy0:ys.length=0
      ·have hys0:ys=[] := List.length_eq_zero_iff.1 hy0
       subst hys0
       refine ⟨g,.slice none 0 0,w,[],by rw [ev]; exact run_app_nil hu hi ht2' (by simpa using hlen) hf0,?_⟩
       cases k1 <;> simp [D.fzs] at he <;> subst he <;> exact k.drop (.lnil _ _ .nil)
      ·have hg:0 < 0 + ys.length:=by omega
       cases k1
       ·simp at he
       ·simp only [if_neg hy0] at he
        cases he
        obtain ⟨v',w',hrun,k3,_⟩:=grow 0 none [] [] ev (by simp) (by simp) (by simp) (by simp [Builtin.firstCells]) .nil (List.nil_sublist _) (by simpa using hg)
        exact ⟨g,v',w',_,hrun,k3⟩
       ·cases he
        exact growo 0 none [] ev (by simp) (by simp) (by simp) (by simp [Builtin.firstCells]) .nil (by simpa using hg)
       ·cases he
        obtain ⟨v',w',hrun,k3,_⟩:=grow 0 none [] [] ev (by simp) (by simp) (by simp) (by simp [Builtin.firstCells]) .nil (List.nil_sublist _) (by simpa using hg)
        exact ⟨g,v',w',_,hrun,k3⟩
     ·rcases hkz with rfl | rfl
      ·simp at he
      ·have hc0:=hnz rfl
       subst hc0
       by_cases hy0:ys.length=0
       ·have hys0:ys=[] := List.length_eq_zero_iff.1 hy0
        subst hys0
        simp at he
        subst he
        have hus0:us=[] := by simpa using hlu
        subst hus0
        refine ⟨g,v,w,[],?_,k.drop r1⟩
        rw [ev]
        exact run_app_none hu hi ht2' x0 (by simpa using hlen) (by simpa using hf0)
       ·have hg:0 < 0 + ys.length:=by omega
        simp only [if_neg hy0] at he
        cases he
        obtain ⟨v',w',hrun,k3,_⟩:=grow 0 (some x0) [] [] ev (by simp) (by simp) (by simp) (by simpa using run_firstCells_some (P:=P) w.drew i.size 0 x0 0 0 [] (by simp) (by simp)) .nil (List.nil_sublist _) (by simpa using hg)
        exact ⟨g,v',w',_,hrun,k3⟩
     ·have hl0:us0.length=xs.length * i.size:=by rw [← hcc.length,cellsOf_length hs]
      have hcell0:∀ (j:Nat) (u:Value),us0[j]? = some u → w.cell? ⟨b,o1 + j,none⟩=some u:=by
       rcases hk with ⟨_,_,_,_,hu⟩ | ⟨_,_,_,_,_,hu⟩ | ⟨_,_,_,_,hu⟩
       ·exact fun j u e=>k.imok _ _ _ (hu j u e)
       ·exact fun j u e=>k.imok _ _ _ (hu j u e)
       ·exact hu
      have hfo:(Builtin.firstCells i.size xs.length (.slice (some ⟨b,o1,none⟩) xs.length cap)).run P w.drew=.ok us0.toArray w.drew :=
       run_firstCells_some (P:=P) w.drew i.size xs.length ⟨b,o1,none⟩ xs.length cap us0 hl0 (fun j u hj=>by rw [add_addr]; exact hcell0 j u hj)
      by_cases hfit:xs.length + ys.length ≤ cap
      ·have place : ∀ c tt ff, w.heap[b]? = some (.cells c tt ff) → o1 + cap * i.size ≤ c.size → (∀ j, j < c.size → w.frozen? ⟨b, j, none⟩ = false) →
           (Builtin.append_ #[t,t2] ty #[v,x]).run P w=.ok (.slice (some ⟨b,o1,none⟩) (xs.length + ys.length) cap) (w.setCells b (o1 + xs.length * i.size) us) ∧ o1 + xs.length * i.size + us.length ≤ c.size:=by
        intro c tt ff hb1 hb2 hb3
        have hle:xs.length * i.size + ys.length * i.size ≤ cap * i.size:=by rw [← Nat.add_mul]; exact Nat.mul_le_mul_right _ hfit
        have hc5:∀ j,j < us.length → (w.cell? ⟨b,o1 + xs.length * i.size + j,none⟩).isSome=true:=by
         intro j hj
         rw [cell_of_row _ _ _ _ _ _ hb1]
         simp; omega
        exact ⟨by rw [ev]; exact run_app_fit hu hi ht2' hlen hf0 hfit hc5 (fun j hj=>hb3 _ (by omega)) hus,by omega⟩
       rcases hk with ⟨hk,rfl,rfl,hn,_⟩ | ⟨rfl,rfl,rfl,⟨c,tt,ff,hb1,hb2,hb3,hb4⟩,him,huim⟩ | ⟨rfl,rfl,⟨c,tt,ff,hb1,hb2,hb3,hb4⟩,him,hucell⟩
       ·rcases hk with rfl | rfl
        ·simp at he
        ·have:=hn rfl
         have hy0:ys.length=0:=by omega
         have hys0:ys=[] := List.length_eq_zero_iff.1 hy0
         subst hys0
         simp at he
         subst he
         have hus0:us=[] := by simpa using hlu
         subst hus0
         refine ⟨g,v,w,[],?_,k.drop r1⟩
         rw [ev]
         have:=run_app_fit (ty:=ty) (b:=b) (o1:=o1) hu hi ht2' hlen hf0 hfit (by simp) (by simp) (by simp)
         simpa [World.setCells] using this
       ·cases he
        obtain ⟨hrun,hfit2⟩:=place c tt ff hb1 hb2 hb3
        obtain ⟨q1,q2,q3,q4,q5,q6⟩:=heap_setCells b us (o1 + xs.length * i.size) w c tt ff hb1 hfit2
        have hbC:b ∉ C:=fun hc=>mem_nd hnd (by simp) hc
        obtain ⟨im1,hset1,r3⟩:=r2.fz hndC
        have him1:∀ j,o1 + xs.length * i.size ≤ j → im1 b j=none:=fun j hj=>(hset1.same _ hbC j).trans (him j hj)
        have hread:=row_read (c:=c) (us:=us) (o1:=o1) hl0 hfit2 (fun j u hj=>by have:=hcell0 j u hj; rwa [cell_of_row _ _ _ _ _ _ hb1] at this)
        have hcw:∀ j,(w.setCells b (o1 + xs.length * i.size) us).cell? ⟨b,j,none⟩=(c.toList.take (o1 + xs.length * i.size) ++ us ++ c.toList.drop (o1 + xs.length * i.size + us.length)).toArray[j]? := fun j=>cell_of_row _ _ _ _ _ _ q1
        have hco:∀ c' j,c' ≠ b → (w.setCells b (o1 + xs.length * i.size) us).cell? ⟨c',j,none⟩=w.cell? ⟨c',j,none⟩:=fun c' j hne=>World.cell?_of_block (q2 c' hne)
        let im2:Nat → Nat → Option Value:=fun c' j=>if c'=b ∧ o1 + xs.length * i.size ≤ j then us[j - (o1 + xs.length * i.size)]? else im1 c' j
        have hkeep:∀ c' j u,im1 c' j=some u → im2 c' j=some u:=by
         intro c' j u h1
         show (if c'=b ∧ o1 + xs.length * i.size ≤ j then us[j - (o1 + xs.length * i.size)]? else im1 c' j)=some u
         split
         ·rename_i hcj; rw [hcj.1,him1 j hcj.2] at h1; cases h1
         ·exact h1
        have hch:Chg B g { g with im:=im2 } w (w.setCells b (o1 + xs.length * i.size) us) ([b] ++ C):=by
         refine ⟨fun c' hc'=>q2 c' (by rintro rfl; simp at hc'),q3,fun c' j u e=>hkeep _ _ _ (hset1.keep _ _ _ e),?_,?_,rfl,rfl,rfl,q4,q5,q6⟩
         ·intro c' hc' j
          show (if c'=b ∧ o1 + xs.length * i.size ≤ j then us[j - (o1 + xs.length * i.size)]? else im1 c' j)=g.im c' j
          simp only [List.cons_append,List.nil_append,List.mem_cons,not_or] at hc'
          rw [if_neg (by rintro ⟨rfl,_⟩; exact hc'.1 rfl)]
          exact hset1.same _ hc'.2 j
         ·intro c' j u e1
          have e1':(if c'=b ∧ o1 + xs.length * i.size ≤ j then us[j - (o1 + xs.length * i.size)]? else im1 c' j)=some u:=e1
          split at e1'
          ·rename_i hcj
           obtain ⟨rfl,hj⟩:=hcj
           rw [hcw]
           have:=hread (xs.length * i.size + (j - (o1 + xs.length * i.size))) u (by rw [← hl0,List.getElem?_append_right (by omega)]; rw [← e1']; congr 1; omega)
           rw [← this]; congr 1; omega
          ·rename_i hcj
           have hw:w.cell? ⟨c',j,none⟩=some u:=(hset1.cell _ _ _ e1').elim (k.imok _ _ _) id
           by_cases hcb:c'=b
           ·subst hcb
            rw [hcw,row_old hfit2 (by omega)]
            rwa [cell_of_row _ _ _ _ _ _ hb1] at hw
           ·rw [hco _ _ hcb]; exact hw
        have hrx':RVs im2 g.gl (w.setCells b (o1 + xs.length * i.size) us) (cellsOf xs) us0 [] := hcc.frame (fun _ _ _ e=>hkeep _ _ _ (hset1.keep _ _ _ e)) (fun _ _ e=>e) (by simp)
        have r3':RVs im2 g.gl (w.setCells b (o1 + xs.length * i.size) us) (cellsOf (D.fzs ys)) us [] := by rw [fzs_cellsOf]; exact r3.frame hkeep (fun _ _ e=>e) (by simp)
        have hx:=RVs.lo (im:=im2) (gl:=g.gl) (w:=w.setCells b (o1 + xs.length * i.size) us) i.size (xs ++ D.fzs ys) b o1 cap (us0 ++ us) (by simpa [fzs_length] using hfit)
         (fun y hy=>by
          rcases List.mem_append.1 hy with hy | hy
          ·exact hs y hy
          ·rw [fzs_map] at hy
           obtain ⟨y0,h0,rfl⟩:=List.mem_map.1 hy
           rw [fzs_cells,fzs_length]; exact hys y0 h0)
         (by
          intro j u hj
          by_cases hjl:j < us0.length
          ·rw [List.getElem?_append_left hjl] at hj
           exact hkeep _ _ _ (hset1.keep _ _ _ (huim j u hj))
          ·rw [List.getElem?_append_right (by omega)] at hj
           show (if b=b ∧ o1 + xs.length * i.size ≤ o1 + j then us[o1 + j - (o1 + xs.length * i.size)]? else im1 b (o1 + j))=some u
           rw [if_pos ⟨rfl,by omega⟩,← hj]; congr 1; omega)
         (fun u hu=>by rcases List.mem_append.1 hu with hu | hu; exact h1c u hu; exact hus u hu)
         ⟨_,tt,ff,q1,by simp; omega,fun j hj=>(by
          have hj':j < c.size:=by simp at hj; omega
          rw [World.frozen?_setCells]; exact hb3 j hj'),hb4⟩
         (by
          intro j hj
          show (if b=b ∧ o1 + xs.length * i.size ≤ j then us[j - (o1 + xs.length * i.size)]? else im1 b j)=none
          simp only [List.length_append,fzs_length,Nat.add_mul] at hj
          rw [if_pos ⟨rfl,by omega⟩]
          exact List.getElem?_eq_none (by omega))
         (by rw [cellsOf_append]; exact hrx'.append r3') .nil
        exact ⟨{ g with im:=im2 },.slice (some ⟨b,o1,none⟩) (xs.length + ys.length) cap,w.setCells b (o1 + xs.length * i.size) us,[b],hrun,k.setx hch (by simpa [fzs_length] using hx) (by simp) (by simp)⟩
       ·cases he
        obtain ⟨hrun,hfit2⟩:=place c tt ff hb1 hb2 hb3
        obtain ⟨q1,q2,q3,q4,q5,q6⟩:=heap_setCells b us (o1 + xs.length * i.size) w c tt ff hb1 hfit2
        have hread:=row_read (c:=c) (us:=us) (o1:=o1) hl0 hfit2 (fun j u hj=>by have:=hcell0 j u hj; rwa [cell_of_row _ _ _ _ _ _ hb1] at this)
        have hbn:b ∉ G ++ C:=by
         intro hm
         rcases List.mem_append.1 hm with hm | hm
         ·exact (List.nodup_cons.1 hndA).1 hm
         ·exact mem_nd hnd (by simp) hm
        have hch:Chg B g g w (w.setCells b (o1 + xs.length * i.size) us) (b :: G ++ C):=by
         refine ⟨fun c' hc'=>q2 c' (by rintro rfl; simp at hc'),q3,fun c' j u e=>e,fun _ _ _=>rfl,?_,rfl,rfl,rfl,q4,q5,q6⟩
         intro c' j u e1
         have hcb:c' ≠ b:=by rintro rfl; rw [him] at e1; cases e1
         exact (World.cell?_of_block (w:=w) (a:=⟨c',j,none⟩) (q2 c' hcb)).trans (k.imok _ _ _ e1)
        have hfr:∀ {es ts K},(∀ c ∈ K,c ∈ G ++ C) → g.rv w es ts K → g.rv (w.setCells b (o1 + xs.length * i.size) us) es ts K:=fun hK hr=>hr.frame (fun _ _ _ e=>e) (fun _ _ e=>e) (fun c hc=>⟨fun _=>rfl,q2 c (by rintro rfl; exact hbn (hK _ hc))⟩)
        have hx:=RVs.lx (im:=g.im) (gl:=g.gl) (w:=w.setCells b (o1 + xs.length * i.size) us) i.size (xs ++ ys) b o1 cap (us0 ++ us) (by simpa using hfit)
         (fun y hy=>by rcases List.mem_append.1 hy with hy | hy; exact hs y hy; exact hys y hy)
         (fun j u hj=>by rw [cell_of_row _ _ _ _ _ _ q1]; exact hread j u hj)
         (fun u hu=>by rcases List.mem_append.1 hu with hu | hu; exact h1c u hu; exact hus u hu)
         ⟨_,tt,ff,q1,by simp; omega,fun j hj=>(by
          have hj':j < c.size:=by simp at hj; omega
          rw [World.frozen?_setCells]; exact hb3 j hj'),hb4⟩ him
         (by rw [cellsOf_append]; exact (hfr (fun c hc=>by simp [hc]) hcc).append (hfr (fun c hc=>by simp [hc]) r2)) .nil
        exact ⟨g,.slice (some ⟨b,o1,none⟩) (xs.length + ys.length) cap,w.setCells b (o1 + xs.length * i.size) us,b :: (G ++ C),hrun,k.setx hch (by simpa using hx) (by simpa using hnd) (by simp)⟩
      ·have hg:cap < xs.length + ys.length:=by omega
       rcases hk with ⟨hk,rfl,rfl,hn,_⟩ | ⟨rfl,rfl,rfl,_,_,_⟩ | ⟨rfl,rfl,_,_,_⟩
       ·rcases hk with rfl | rfl
        ·simp at he
        ·have hy0:¬ ys.length=0:=by omega
         simp only [if_neg hy0] at he
         cases he
         obtain ⟨v',w',hrun,k3,_⟩:=grow cap _ us0 [] ev hl0 hs h1c hfo hcc (List.nil_sublist _) hg
         exact ⟨g,v',w',_,hrun,k3⟩
       ·cases he
        exact growo cap _ us0 ev hl0 hs h1c hfo hcc hg
       ·cases he
        obtain ⟨v',w',hrun,k3,_⟩:=grow cap _ us0 G ev hl0 hs h1c hfo hcc (List.sublist_cons_self _ _) hg
        exact ⟨g,v',w',_,hrun,k3⟩
    ·cases he
   ·cases c4
  ·cases hc
 ·cases hc
theorem o_app {P B g F s a w Q o t t2 sz bytes x y x' y' dst r s' ac OO meth} (h : Sm B g F s a w [] [] []) (hd : ∀ k, o.dst = some k → k < B.nt) (hop : o.op = .call { callee := .builtin .append, args := #[x', y'], argTypes := #[t, t2] })
    (hx:chkX x x'=true) (hy:chkX y y'=true) (hc:chkApp P t t2 false sz bytes=true) (he:evO OO meth (.app sz bytes x y) s dst=some (r,s',ac)):Done P B o a w Q s' r:=by
 simp only [evO] at he
 split at he
 ·rename_i d s1 h1
  split at he
  ·rename_i r2 s2 h2
   split at he
   ·rename_i sz' ys h3
    split at he
    ·rename_i hsz; subst hsz
     simp only [Option.map_eq_some_iff] at he
     obtain ⟨q,h4,h5⟩:=he
     cases h5
     obtain ⟨F1,Fy,k1⟩:=rx1_sim h hx h1
     obtain ⟨F2,us,Fx',k2,hys,hus,hlu,hyv⟩:=elems_sim k1 hy h2 h3
     cases d <;> try (simp only [appv] at h4; cases h4; done)
     rename_i kk sz2 xs
     have hsz2:sz2=sz':=by simp only [appv] at h4; split at h4; rename_i hh; exact hh.1; cases h4
     subst hsz2
     obtain ⟨g',v',w',Fz,hrun,k3⟩:=app_core (ty:=o.type) (x:=a.eval y') (by simpa using k2) hys hus hlu hc
      (by
       intro w0
       rcases hyv with ⟨rfl,ev⟩ | ⟨rfl,x0,cap,ev⟩ | ⟨b,o1,cap,ev,_⟩
       ·simp [ev,Builtin.lenOf]
       ·simp [ev,Builtin.lenOf]
       ·simp [ev,Builtin.lenOf])
      (by
       intro w0 hw0
       rcases hyv with ⟨rfl,ev⟩ | ⟨rfl,x0,cap,ev⟩ | ⟨b,o1,cap,ev,hcell⟩
       ·have:us=[] := by simpa using hlu
        subst this
        simp [ev,Builtin.firstCells]
       ·have:us=[] := by simpa using hlu
        subst this
        rw [ev]
        exact run_firstCells_some (P:=P) w0 sz2 0 x0 0 cap [] (by simp) (by simp)
       ·rw [ev]
        exact run_firstCells_some (P:=P) w0 sz2 ys.length ⟨b,o1,none⟩ ys.length cap us hlu (fun j u hj=>by rw [add_addr]; exact (World.cell?_of_block (w:=w) (a:=⟨b,o1 + j,none⟩) (hw0 b)).trans (hcell j u hj))) h4
     exact done_v hd (by simp [execOp,hop,resolve,invoke,builtin,hrun]) k3
    ·cases he
   ·cases he
  ·cases he
 ·cases he
end Go.AM

namespace Go.AM
def chkMs (P:Program) (t:TypeId) (sz bytes:Nat) (z:D):Bool:=match P.underlying t with
 | some (.slice e)=>chkZe P e sz z && (match P.info? e with
  | some i=>i.bytes == bytes
  | none=>false)
 | _=>false
theorem o_ms {P B g F s a w Q o t sz bytes z x y x' y' dst r s' ac OO meth} (h : Sm B g F s a w [] [] []) (hd : ∀ k, o.dst = some k → k < B.nt) (hop : o.op = .makeSlice t x' y')
    (hx:chkX x x'=true) (hy:chkX y y'=true) (hc:chkMs P t sz bytes z=true) (he:evO OO meth (.ms sz bytes z x y) s dst=some (r,s',ac)):Done P B o a w Q s' r:=by
 simp only [evO] at he
 split at he
 ·rename_i n s1 h1
  split at he
  ·rename_i c s2 h2
   split at he
   ·rename_i hb
    obtain ⟨hb1,hb2,hb3,hb4⟩:=hb
    cases he
    obtain ⟨F2,Fy,k⟩:=rx2_sim h hx hy h1 h2
    obtain ⟨A,C,eF,hA,hC⟩:=k.two
    have e1:=int_inv hA
    have e2:=int_inv hC
    unfold chkMs at hc
    split at hc
    ·rename_i e hu
     simp only [Bool.and_eq_true] at hc
     obtain ⟨hc,hby⟩:=hc
     split at hby
     ·rename_i i hi
      simp only [beq_iff_eq] at hby
      simp only [chkZe,Bool.and_eq_true,beq_iff_eq,bne_iff_ne] at hc
      obtain ⟨⟨⟨c1,c2⟩,c3⟩,c4⟩:=hc
      obtain ⟨zv,hzv,hz1,hzr⟩:=chkZ_rv c1
      have hzs:zv.cells.size=sz:=by have:=(hzr g.im g.gl w).length; simp at this; omega
      have hisz:i.size=sz:=by simpa [szT,hi] using c2
      have hz:i.zero=some zv:=by simpa [zeroT,hi] using hzv
      have hbytes:(i.bytes:Int) * c ≤ 281474976710656:=by
       have h3:((c.toNat * bytes:Nat):Int) ≤ 140737488355328:=by omega
       rw [Int.natCast_mul,Int.toNat_of_nonneg (by omega)] at h3
       rw [hby,Int.mul_comm]; omega
      have hrun:=run_make (P:=P) w t e i zv hu hi hz .i64 .i64 n c hb1 hb2 hbytes hb3
      obtain ⟨nn,rfl⟩:=Int.eq_ofNat_of_zero_le hb1
      obtain ⟨cc,rfl⟩:=Int.eq_ofNat_of_zero_le (show 0 ≤ c by omega)
      have hnc:nn ≤ cc:=by omega
      simp only [Int.ofNat_eq_natCast,Int.toNat_natCast] at hrun ⊢
      have hml:∀ (j:Nat) (u:Value),(List.replicate nn zv.cells.toList).flatten[j]? = some u → (madeCells zv.cells (cc * i.size))[j]? = some u:=by
       intro j u hj
       rw [← made_list] at hj
       have hjl:j < nn * zv.cells.size:=by rw [List.getElem?_eq_some_iff] at hj; have:=hj.1; simpa using this
       have hjc:j < cc * i.size:=by
        have:=Nat.mul_le_mul_right sz hnc
        rw [hzs] at hjl; rw [hisz]; omega
       simp [List.getElem?_range hjl] at hj
       simp [madeCells,hjc,hj]
      have hrep:=(hzr g.im g.gl w).rep nn
      have k2:=(k.weaken [] [] [] .nil (by simp) List.nodup_nil).newx sz (List.replicate nn z) (List.replicate nn zv.cells.toList).flatten (madeCells zv.cells (cc * i.size)) e cc (by rw [cellsOf_rep]; exact hrep)
       (fun u hu=>by
        obtain ⟨l,hl,hul⟩:=List.mem_flatten.1 hu
        rw [List.eq_of_mem_replicate hl] at hul
        exact hz1 u hul)
       (fun y hy=>by rw [List.eq_of_mem_replicate hy]; exact c3) hml (by simpa using hnc) (by simp [madeCells,hisz])
      rw [List.length_replicate] at k2
      have ev1:a.eval x'=.int .i64 (nn:Int):=by simpa using e1
      have ev2:a.eval y'=.int .i64 (cc:Int):=by simpa using e2
      exact done_v hd (by simp [execOp,hop,ev1,ev2,hrun]) k2
     ·cases hby
    ·cases hc
   ·cases he
  ·cases he
 ·cases he
def Enters (P:Program) (f:FuncId):Prop:=∀ args w,(callFunc f args).run P w=.ok (.enter f args) w
def CallOK1 (P:Program) (OO:Or):Prop:=∀ f ds sg d sg' lo',f < Q0 → OO.call f ds sg sg.length=some (d,sg',lo') →
 Enters P f ∧ ∀ (w:World) (g:G) (F0:List Nat) (F:Site → List Nat) (vs:List Value) (Fx:List Nat),
  Sm ⟨w,g.im,g.gl,sg,F0,0⟩ g F ⟨[],[],sg,sg.length⟩ ⟨#[],[]⟩ w ds vs Fx →
  Calls P f vs.toArray w (fun e w'=>match e with
   | .returned v=>∃ g' F' Fx',Sm ⟨w,g.im,g.gl,sg,F0,0⟩ g' F' ⟨[],[],sg',lo'⟩ ⟨#[],[]⟩ w' [d] [v] Fx'
   | _=>False)
def CallOK2 (P:Program) (OO:Or):Prop:=∀ f ds0 sg d sg' lo',Q0 ≤ f → OO.call f ds0 sg sg.length=some (d,sg',lo') →
 ∃ r off ds,ds0=.p r off :: ds ∧ (∃ cs d0,sg[r]? = some cs ∧ cs[off]? = some d0) ∧ Enters P (f - Q0) ∧ ∀ (w:World) (g:G) (F0:List Nat) (F:Site → List Nat) (u:Value) (vs:List Value) (Fx:List Nat),
  plHdr g w (.gb r off) u → Sm ⟨w,g.im,g.gl,sg,F0,0⟩ g F ⟨[],[],sg,sg.length⟩ ⟨#[],[]⟩ w ds vs Fx →
  Calls P (f - Q0) (u :: vs).toArray w (fun e w'=>match e with
   | .returned v=>∃ g' F' Fx',Sm ⟨w,g.im,g.gl,sg,F0,0⟩ g' F' ⟨[],[],sg',lo'⟩ ⟨#[],[]⟩ w' [d] [v] Fx'
   | _=>False)
structure SrtW (w w':World) (b o:Nat) (us:List Value):Prop where
 os:w'.os=w.os
 tape:w'.tape=w.tape
 out:w'.output=w.output
 size:w.heap.size ≤ w'.heap.size
 heap:∀ x,x < w.heap.size → x ≠ b → w'.heap[x]? = w.heap[x]?
 row:∃ c t f c',w.heap[b]? = some (.cells c t f) ∧ w'.heap[b]? = some (.cells c' t f) ∧ c'.size=c.size ∧ ∀ j:Nat,c'[j]? = if o ≤ j ∧ j < o + us.length then us[j - o]? else c[j]?
def SrtOK (P:Program) (srt:FuncId → FuncId → Nat → List D → Option (List D)):Prop:=∀ f g sz xs ys,srt f g sz xs=some ys → Enters P f ∧ (xs=[] → ys=[]) ∧
 (xs=[] → ∀ (p:Option Addr) (cap:Nat) (w:World),Calls P f #[.slice p 0 cap,.func (.func g) #[] #[]] w fun e w'=>e=.returned (.tuple #[]) ∧ w'=w) ∧
 ∀ zs:List (D × List Value × List Nat),zs.map (·.1)=xs → zs ≠ [] → (∀ z ∈ zs,z.2.1.length=sz ∧ (∀ v ∈ z.2.1,v.oneCell'=true) ∧ ∃ im gl w,RVs im gl w z.1.cells z.2.1 z.2.2) →
  ∃ zs':List (D × List Value × List Nat),List.Perm zs' zs ∧ zs'.map (·.1)=ys ∧ ∀ (w:World) (b o cap:Nat) c t f',w.heap[b]? = some (.cells c t f') → (∀ j,j < c.size → w.frozen? ⟨b,j,none⟩=false) → o + (zs.map (·.2.1)).flatten.length ≤ c.size →
   (∀ (j:Nat) (u:Value),(zs.map (·.2.1)).flatten[j]? = some u → c[o + j]? = some u) →
   Calls P f #[.slice (some ⟨b,o,none⟩) xs.length cap,.func (.func g) #[] #[]] w fun e w'=>e=.returned (.tuple #[]) ∧ SrtW w w' b o (zs'.map (·.2.1)).flatten
def CallOK (P:Program) (OO:Or):Prop:=CallOK1 P OO ∧ CallOK2 P OO ∧ SrtOK P OO.srt
def glF (F:Site → List Nat):Site → List Nat
 | .gb r=>F (.gb r)
 | _=>[]
theorem Sm.enter {B g F s a w ds vs Fx} (h : Sm B g F s a w ds vs Fx) :
    Sm ⟨w,g.im,g.gl,s.sg,Fx ++ (List.range s.sg.length).flatMap (fun r=>F (.gb r)),0⟩ { g with lc:=fun _=>none } (glF F) ⟨[],[],s.sg,s.sg.length⟩ ⟨#[],[]⟩ w ds vs Fx:=by
 have hgl:∀ x b,b ∈ glF F x → ∃ r,x=.gb r ∧ b ∈ F (.gb r):=by
  intro x b hb
  cases x with
  | gb r=>exact ⟨r,rfl,hb⟩
  | sl k=>cases hb
  | ob k=>cases hb
 refine { df:=rfl,nt:=rfl,sl:=by simp [look],ob:=by simp [look],gb:=h.gb,ex:=h.ex,lcd:=by simp,dslot:=fun _ _=>rfl,dob:=fun _ _=>rfl,dgb:=h.dgb,dj:=⟨?_,?_,?_,h.dj.ndx⟩,lt:=?_,imok:=h.imok,im0:=fun _ _ _ e=>e,gl0:=fun _ _ e=>e,glb:=h.glb,gpl:=h.gpl,gl0b:=h.glb,sgl:=Nat.le_refl _,keep:=fun _ _ _=>⟨rfl,fun _=>rfl⟩,os:=rfl,tape:=rfl,out:=rfl,hs:=Nat.le_refl _,refs:=?_ }
 ·intro x y hxy b hb hb'
  obtain ⟨r,rfl,h1⟩:=hgl x b hb
  obtain ⟨r',rfl,h2⟩:=hgl y b hb'
  exact h.dj.dis _ _ hxy b h1 h2
 ·intro x b hb hx
  obtain ⟨r,rfl,h1⟩:=hgl x b hb
  exact h.dj.dix _ b h1 hx
 ·intro x
  cases x with
  | gb r=>exact h.dj.nd _
  | sl k=>exact List.nodup_nil
  | ob k=>exact List.nodup_nil
 ·intro b hb
  rcases hb with hb | ⟨x,hb⟩
  ·exact ⟨(h.lt b (.inl hb)).1,.inl (by simp [hb])⟩
  ·obtain ⟨r,rfl,h1⟩:=hgl x b hb
   refine ⟨(h.lt b (.inr ⟨_,h1⟩)).1,.inl ?_⟩
   have hr:r < s.sg.length:=by
    apply Decidable.byContradiction
    intro hr
    have:=h.dgb r (List.getElem?_eq_none (by omega))
    rw [this] at h1; cases h1
   simp only [List.mem_append,List.mem_flatMap,List.mem_range]
   exact .inr ⟨r,hr,h1⟩
 ·intro m r c0 c1 _ e0 e1 hn
  have e0':s.sg[r]? = some c0:=e0
  have e1':s.sg[r]? = some c1:=e1
  rw [e0'] at e1'; cases e1'; exact hn
def mixF (F F':Site → List Nat):Site → List Nat
 | .gb r=>F' (.gb r)
 | x=>F x
theorem Sm.back {B g F s a w ds vs Fx} (h : Sm B g F s a w ds vs Fx) {g' F' sg' lo' w' d v Fx'}
    (k:Sm ⟨w,g.im,g.gl,s.sg,Fx ++ (List.range s.sg.length).flatMap (fun r=>F (.gb r)),0⟩ g' F' ⟨[],[],sg',lo'⟩ ⟨#[],[]⟩ w' [d] [v] Fx') :
    Sm B { g' with lc:=g.lc } (mixF F F') { s with sg:=sg',lo:=min s.lo lo',fr:=forget Q.gl s.fr } a w' [d] [v] Fx':=by
 have hF0:∀ b,b ∈ Fx ++ (List.range s.sg.length).flatMap (fun r=>F (.gb r)) → Tot F Fx b:=by
  intro b hb
  simp only [List.mem_append,List.mem_flatMap,List.mem_range] at hb
  rcases hb with hb | ⟨r,_,hb⟩
  ·exact .inl hb
  ·exact .inr ⟨_,hb⟩
 have hloc:∀ x,(∀ r,x ≠ .gb r) → ∀ b ∈ F x,b < w.heap.size ∧ b ∉ Fx ++ (List.range s.sg.length).flatMap (fun r=>F (.gb r)):=by
  intro x hx b hb
  refine ⟨(h.lt b (.inr ⟨x,hb⟩)).1,fun hm=>?_⟩
  simp only [List.mem_append,List.mem_flatMap,List.mem_range] at hm
  rcases hm with hm | ⟨r,_,hm⟩
  ·exact h.dj.dix x b hb hm
  ·exact h.dj.dis x (.gb r) (hx r) b hb hm
 have hkeep:∀ x,(∀ r,x ≠ .gb r) → ∀ b ∈ F x,w'.heap[b]? = w.heap[b]? ∧ ∀ j,g'.im b j=g.im b j:=fun x hx b hb=>k.keep b (hloc x hx b hb).1 (hloc x hx b hb).2
 have hrv:∀ x,(∀ r,x ≠ .gb r) → ∀ {es us K},(∀ b ∈ K,b ∈ F x) → g.rv w es us K → RVs g'.im g'.gl w' es us K :=
  fun x hx {es us K} hK hr=>hr.frame k.im0 k.gl0 (fun b hb=>⟨(hkeep x hx b (hK b hb)).2,(hkeep x hx b (hK b hb)).1⟩)
 have hsgl:s.sg.length ≤ sg'.length:=k.sgl
 refine { df:=h.df,nt:=h.nt,sl:=?_,ob:=?_,gb:=?_,ex:=k.ex,lcd:=h.lcd,dslot:=?_,dob:=?_,dgb:=k.dgb,dj:=⟨?_,?_,?_,k.dj.ndx⟩,lt:=?_,imok:=k.imok,im0:=fun b j v e=>k.im0 _ _ _ (h.im0 _ _ _ e),gl0:=fun r b e=>k.gl0 _ _ (h.gl0 _ _ e),glb:=k.glb,gpl:=k.gpl,gl0b:=h.gl0b,sgl:=Nat.le_trans h.sgl hsgl,keep:=?_,os:=k.os.trans h.os,tape:=k.tape.trans h.tape,out:=k.out.trans h.out,hs:=Nat.le_trans h.hs k.hs,refs:=?_ }
 ·intro j r hj
  rw [look_forget] at hj
  cases e:look j s.fr with
  | none=>rw [e] at hj; cases hj
  | some r0 =>
   rw [e] at hj; simp only [Option.map_some] at hj; cases hj
   obtain ⟨v,hv,hr0⟩:=h.sl j r0 e
   refine ⟨v,hv,?_⟩
   refine hr0.forget _ (fun q hpq hqo=>?_) (fun d hd=>hrv (.sl j) (by simp) (fun b hb=>hb) hd)
   have hpl:∀ pl u,(∀ r off,pl ≠ .gb r off) → plHdr g w pl u → plHdr { g' with lc:=g.lc } w' pl u:=by
    intro pl u hne hp
    cases pl with
    | gb r off=>exact absurd rfl (hne r off)
    | ob i off =>
     simp only [plHdr] at hp ⊢
     cases e:g.lc i with
     | none=>rw [e] at hp; exact hp
     | some x =>
      rw [e] at hp
      cases x with
      | inr u'=>exact hp
      | inl b =>
       obtain ⟨ci,hi⟩:=h.lcd i _ e
       exact (World.cell?_of_block (w:=w) (w':=w') (a:=⟨b,off,none⟩) (hkeep (.ob i) (by simp) b (h.blk_ob hi e)).1).trans hp
   cases q with
   | ptr i off=>exact hqo
   | hdr i=>exact hqo
   | hd pl =>
    cases pl with
    | gb r off=>simp [Q.gl] at hpq
    | ob i off=>exact hpl (.ob i off) v (by simp) hqo
   | el pl ix fo =>
    cases pl with
    | gb r off=>simp [Q.gl] at hpq
    | ob i off =>
     obtain ⟨b,o,len,cap,sz,xs,h1,h2,h3,h4⟩:=hqo
     exact ⟨b,o,len,cap,sz,xs,hpl (.ob i off) _ (by simp) h1,h2,h3,h4⟩
 ·intro j cs0 hj
  have:=h.ob j cs0 hj
  unfold obOK at this ⊢
  simp only [mixF]
  cases e:g.lc j with
  | none=>rw [e] at this; exact this
  | some x =>
   rw [e] at this
   cases x with
   | inr u=>obtain ⟨d,e1,e2⟩:=this; exact ⟨d,e1,hrv (.ob j) (by simp) (fun b hb=>hb) e2⟩
   | inl b =>
    obtain ⟨c,t,f,F1,k1,k2,k3,k4,k5,k6⟩:=this
    have hb:=hkeep (.ob j) (by simp) b (by rw [k5]; simp)
    exact ⟨c,t,f,F1,hb.1.trans k1,fun i hi=>(World.frozen?_of_block (w:=w) (w':=w') (a:=⟨b,i,none⟩) hb.1).trans (k2 i hi),k3,fun i=>(hb.2 i).trans (k4 i),k5,hrv (.ob j) (by simp) (fun c hc=>by rw [k5]; simp [hc]) k6⟩
 ·intro r cs0 hj; exact k.gb r cs0 hj
 ·intro j hj
  rw [look_forget] at hj
  exact h.dslot j (by cases e:look j s.fr <;> simp [e] at hj ⊢)
 ·intro j hj; exact h.dob j hj
 ·have cross:∀ x r b,(∀ r,x ≠ .gb r) → b ∈ F x → b ∈ F' (.gb r) → False:=by
   intro x r b hx h1 h2
   obtain ⟨p1,p2⟩:=hloc x hx b h1
   rcases (k.lt b (.inr ⟨_,h2⟩)).2 with hh | hh
   ·exact p2 hh
   ·have:w.heap.size ≤ b:=hh
    omega
  intro x y hxy b hb hb'
  cases x with
  | gb r=>cases y with
   | gb r'=>exact k.dj.dis _ _ hxy b hb hb'
   | sl j=>exact cross (.sl j) r b (by simp) hb' hb
   | ob j=>exact cross (.ob j) r b (by simp) hb' hb
  | sl j=>cases y with
   | gb r'=>exact cross (.sl j) r' b (by simp) hb hb'
   | sl j'=>exact h.dj.dis _ _ hxy b hb hb'
   | ob j'=>exact h.dj.dis _ _ hxy b hb hb'
  | ob j=>cases y with
   | gb r'=>exact cross (.ob j) r' b (by simp) hb hb'
   | sl j'=>exact h.dj.dis _ _ hxy b hb hb'
   | ob j'=>exact h.dj.dis _ _ hxy b hb hb'
 ·intro x b hb hx
  have cross:(∀ r,x ≠ .gb r) → b ∈ F x → False:=by
   intro hx' h1
   obtain ⟨p1,p2⟩:=hloc x hx' b h1
   rcases (k.lt b (.inl hx)).2 with hh | hh
   ·exact p2 hh
   ·have:w.heap.size ≤ b:=hh
    omega
  cases x with
  | gb r=>exact k.dj.dix _ b hb hx
  | sl j=>exact cross (by simp) hb
  | ob j=>exact cross (by simp) hb
 ·intro x
  cases x with
  | gb r=>exact k.dj.nd _
  | sl j=>exact h.dj.nd _
  | ob j=>exact h.dj.nd _
 ·intro b hb
  have new:Tot F' Fx' b → b < w'.heap.size ∧ (b ∈ B.F0 ∨ B.w0.heap.size ≤ b):=by
   intro ht
   obtain ⟨p1,p2⟩:=k.lt b ht
   refine ⟨p1,?_⟩
   rcases p2 with hh | hh
   ·exact (h.lt b (hF0 b hh)).2
   ·have h1:w.heap.size ≤ b:=hh
    have h2:=h.hs
    exact .inr (by omega)
  have old:∀ x,(∀ r,x ≠ .gb r) → b ∈ F x → b < w'.heap.size ∧ (b ∈ B.F0 ∨ B.w0.heap.size ≤ b):=by
   intro x hx h1
   obtain ⟨p1,p2⟩:=h.lt b (.inr ⟨x,h1⟩)
   have:w.heap.size ≤ w'.heap.size:=k.hs
   exact ⟨by omega,p2⟩
  rcases hb with hb | ⟨x,hb⟩
  ·exact new (.inl hb)
  ·cases x with
   | gb r=>exact new (.inr ⟨_,hb⟩)
   | sl j=>exact old (.sl j) (by simp) hb
   | ob j=>exact old (.ob j) (by simp) hb
 ·intro b h1 h2
  have hlt:b < w.heap.size:=Nat.lt_of_lt_of_le h1 h.hs
  have hn:b ∉ Fx ++ (List.range s.sg.length).flatMap (fun r=>F (.gb r)):=by
   intro hm
   rcases (h.lt b (hF0 b hm)).2 with hh | hh
   ·exact h2 hh
   ·omega
  obtain ⟨q1,q2⟩:=k.keep b hlt hn
  obtain ⟨q3,q4⟩:=h.keep b h1 h2
  exact ⟨q1.trans q3,fun j=>(q2 j).trans (q4 j)⟩
 ·intro m r c0 c1 hlo e0 e1 hn
  have hr:r < s.sg.length:=by
   have:=h.sgl
   rw [List.getElem?_eq_some_iff] at e0
   obtain ⟨h1,_⟩:=e0
   omega
  have hlo':r < s.lo ∧ r < lo':=by simp only at hlo; omega
  exact k.refs m r _ c1 hlo'.2 (List.getElem?_eq_getElem hr) e1 (h.refs m r c0 _ hlo'.1 e0 (List.getElem?_eq_getElem hr) hn)
theorem call_done {P B g F s a w Q o f ds vs Fx OO d sg' lo'} (k : Sm B g F s a w ds vs Fx) (hd : ∀ k, o.dst = some k → k < B.nt) (hf : f < Q0) (hO : CallOK P OO) (hcall : OO.call f ds s.sg s.sg.length = some (d, sg', lo'))
    (hrun:(execOp a.eval o).run P w=(callFunc f vs.toArray).run P w):Done P B o a w Q { s with sg:=sg',lo:=min s.lo lo',fr:=forget AM.Q.gl s.fr } (.v d):=by
 obtain ⟨hen,hc⟩:=hO.1 f ds s.sg d sg' lo' hf hcall
 intro K hK
 unfold Oper.wp
 rw [hrun,hen]
 refine Calls.mono (hc w { g with lc:=fun _=>none } _ _ vs Fx k.enter) ?_
 intro e w' he
 cases e with
 | returned v =>
  obtain ⟨g',F',Fx',k'⟩:=he
  exact hK _ _ ((k.back k').put o.dst hd)
 | panicked _=>exact he.elim
 | outgrown=>exact he.elim
theorem callq_done {P B g F s a w Q o f r off u ds vs Fx OO d sg' lo'} (k : Sm B g F s a w ds vs Fx) (hd : ∀ k, o.dst = some k → k < B.nt) (hf : Q0 ≤ f) (hO : CallOK P OO) (hcall : OO.call f (.p r off :: ds) s.sg s.sg.length = some (d, sg', lo'))
    (hu:plHdr g w (.gb r off) u) (hrun:(execOp a.eval o).run P w=(callFunc (f - Q0) (u :: vs).toArray).run P w):Done P B o a w Q { s with sg:=sg',lo:=min s.lo lo',fr:=forget AM.Q.gl s.fr } (.v d):=by
 obtain ⟨_,_,_,e0,_,hen,hc⟩:=hO.2.1 f _ s.sg d sg' lo' hf hcall
 cases e0
 intro K hK
 unfold Oper.wp
 rw [hrun,hen]
 refine Calls.mono (hc w { g with lc:=fun _=>none } _ _ u vs Fx hu k.enter) ?_
 intro e w' he
 cases e with
 | returned v =>
  obtain ⟨g',F',Fx',k'⟩:=he
  exact hK _ _ ((k.back k').put o.dst hd)
 | panicked _=>exact he.elim
 | outgrown=>exact he.elim
theorem o_call {P B g F s a w Q o f xs xs' ats dst r s' ac OO meth} (h : Sm B g F s a w [] [] []) (hd : ∀ k, o.dst = some k → k < B.nt) (hO : CallOK P OO) (hop : o.op = .call { callee := .value (.func f), args := xs', argTypes := ats })
    (hf:f < Q0) (hx:chkXs xs xs'.toList=true) (he:evO OO meth (.call f xs) s dst=some (r,s',ac)):Done P B o a w Q s' r:=by
 simp only [evO] at he
 split at he
 ·rename_i ds s1 h1
  simp only [Option.map_eq_some_iff] at he
  obtain ⟨⟨d,sg',lo'⟩,h2,h3⟩:=he
  cases h3
  obtain ⟨F1,Fy,k,hl⟩:=rxs_sim h hx h1
  refine call_done (by simpa using k) hd hf hO h2 ?_
  have e1:(List.map a.eval xs'.toList).toArray=xs'.map a.eval:=by apply Array.ext'; simp
  rw [e1]
  simp [execOp,hop,resolve,Deferred.ofValue,invoke,Act.eval]
 ·cases he
theorem Sm.enterp {B g F s a w ds vs Fx} (h : Sm B g F s a w ds vs Fx) (hn : D.nrs 0 ds = true) :
    Sm ⟨w,g.im,fun _=>none,[],Fx,0⟩ ⟨g.im,fun _=>none,fun _=>none,fun _=>none⟩ (fun _=>[]) ⟨[],[],[],0⟩ ⟨#[],[]⟩ w ds vs Fx:=by
 have hx:RVs g.im (fun _=>none) w ds vs Fx:=by simpa using h.ex.nr 0 hn
 refine { df:=rfl,nt:=rfl,sl:=by simp [look],ob:=by simp [look],gb:=by simp,ex:=hx,lcd:=by simp,dslot:=fun _ _=>rfl,dob:=fun _ _=>rfl,dgb:=fun _ _=>rfl,dj:=⟨?_,?_,?_,h.dj.ndx⟩,lt:=?_,imok:=h.imok,im0:=fun _ _ _ e=>e,gl0:=fun _ _ e=>e,glb:=by simp,gpl:=by simp,gl0b:=by simp,sgl:=Nat.le_refl _,keep:=fun _ _ _=>⟨rfl,fun _=>rfl⟩,os:=rfl,tape:=rfl,out:=rfl,hs:=Nat.le_refl _,refs:=by simp }
 ·intro x y hxy b hb; cases hb
 ·intro x b hb; cases hb
 ·intro x; exact List.nodup_nil
 ·intro b hb
  rcases hb with hb | ⟨x,hb⟩
  ·exact ⟨(h.lt b (.inl hb)).1,.inl hb⟩
  ·cases hb
theorem Sm.backp {B g F s a w ds vs Fx} (h : Sm B g F s a w ds vs Fx) {g' F' lo' w' d v Fx'}
    (k:Sm ⟨w,g.im,fun _=>none,[],Fx,0⟩ g' F' ⟨[],[],[],lo'⟩ ⟨#[],[]⟩ w' [d] [v] Fx') :
    Sm B ⟨g'.im,g.gl,g.lc,g.gp⟩ F s a w' [d] [v] Fx':=by
 have hloc:∀ x,∀ b ∈ F x,b < w.heap.size ∧ b ∉ Fx:=fun x b hb=>⟨(h.lt b (.inr ⟨x,hb⟩)).1,fun hm=>h.dj.dix x b hb hm⟩
 have hkeep:∀ x,∀ b ∈ F x,w'.heap[b]? = w.heap[b]? ∧ ∀ j,g'.im b j=g.im b j:=fun x b hb=>k.keep b (hloc x b hb).1 (hloc x b hb).2
 have hrv:∀ x,∀ {es us K},(∀ b ∈ K,b ∈ F x) → g.rv w es us K → RVs g'.im g.gl w' es us K :=
  fun x {es us K} hK hr=>hr.frame k.im0 (fun _ _ e=>e) (fun b hb=>⟨(hkeep x b (hK b hb)).2,(hkeep x b (hK b hb)).1⟩)
 have hex:RVs g'.im g.gl w' [d] [v] Fx':=k.ex.frame (fun _ _ _ e=>e) (fun r b e=>absurd (k.glb r b e) (by simp)) (fun b hb=>⟨fun j=>rfl,rfl⟩)
 have hnew:∀ b ∈ Fx',b < w'.heap.size ∧ (b ∈ Fx ∨ w.heap.size ≤ b):=fun b hb=>k.lt b (.inl hb)
 have hown:∀ x {b cs},Own g w b cs (F x) → Own ⟨g'.im,g.gl,g.lc,g.gp⟩ w' b cs (F x):=by
  intro x b cs ho
  obtain ⟨c,t,f,F1,k1,k2,k3,k4,k5,k6⟩:=ho
  have hb:=hkeep x b (by rw [k5]; simp)
  exact ⟨c,t,f,F1,hb.1.trans k1,fun i hi=>(World.frozen?_of_block (w:=w) (w':=w') (a:=⟨b,i,none⟩) hb.1).trans (k2 i hi),k3,fun i=>(hb.2 i).trans (k4 i),k5,hrv x (fun c hc=>by rw [k5]; simp [hc]) k6⟩
 have hpl:∀ pl u,plHdr g w pl u → plHdr ⟨g'.im,g.gl,g.lc,g.gp⟩ w' pl u:=by
  intro pl u hp
  cases pl with
  | gb r off =>
   obtain ⟨b,e1,e2⟩:=hp
   refine ⟨b,e1,?_⟩
   have hr:=h.glb r _ (h.gpl r b e1)
   have ho:=(h.gb r _ (List.getElem?_eq_getElem hr)).own e1
   obtain ⟨_,_,_,_,_,_,_,_,k5,_⟩:=ho
   exact (World.cell?_of_block (w:=w) (w':=w') (a:=⟨b,off,none⟩) (hkeep (.gb r) b (by rw [k5]; simp)).1).trans e2
  | ob i off =>
   simp only [plHdr] at hp ⊢
   cases e:g.lc i with
   | none=>rw [e] at hp; exact hp
   | some x =>
    rw [e] at hp
    cases x with
    | inr u'=>exact hp
    | inl b =>
     obtain ⟨ci,hi⟩:=h.lcd i _ e
     exact (World.cell?_of_block (w:=w) (w':=w') (a:=⟨b,off,none⟩) (hkeep (.ob i) b (h.blk_ob hi e)).1).trans hp
 refine { df:=h.df,nt:=h.nt,sl:=?_,ob:=?_,gb:=?_,ex:=hex,lcd:=h.lcd,dslot:=h.dslot,dob:=h.dob,dgb:=h.dgb,dj:=⟨h.dj.dis,?_,h.dj.nd,k.dj.ndx⟩,lt:=?_,imok:=k.imok,im0:=fun b j v e=>k.im0 _ _ _ (h.im0 _ _ _ e),gl0:=h.gl0,glb:=h.glb,gpl:=h.gpl,gl0b:=h.gl0b,sgl:=h.sgl,keep:=?_,os:=k.os.trans h.os,tape:=k.tape.trans h.tape,out:=k.out.trans h.out,hs:=Nat.le_trans h.hs k.hs,refs:=h.refs }
 ·intro j r hj
  obtain ⟨v0,hv,hr0⟩:=h.sl j r hj
  refine ⟨v0,hv,?_⟩
  cases r with
  | v d0=>exact hrv (.sl j) (fun b hb=>hb) hr0
  | q q =>
   refine ⟨hr0.1,?_⟩
   have hqo:=hr0.2
   cases q with
   | ptr i off=>exact hqo
   | hdr i=>exact hqo
   | hd pl=>exact hpl pl v0 hqo
   | el pl ix fo =>
    obtain ⟨b,o,len,cap,sz,xs,h1,h2,h3,h4⟩:=hqo
    exact ⟨b,o,len,cap,sz,xs,hpl pl _ h1,h2,h3,h4⟩
 ·intro j cs0 hj
  have:=h.ob j cs0 hj
  unfold obOK at this ⊢
  simp only
  cases e:g.lc j with
  | none=>rw [e] at this; exact this
  | some x =>
   rw [e] at this
   cases x with
   | inr u=>obtain ⟨d,e1,e2⟩:=this; exact ⟨d,e1,hrv (.ob j) (fun b hb=>hb) e2⟩
   | inl b=>exact hown (.ob j) this
 ·intro r cs0 hj
  exact (h.gb r cs0 hj).framed rfl (fun _ _ e=>e) k.im0 (fun b hb=>⟨(hkeep (.gb r) b hb).2,(hkeep (.gb r) b hb).1⟩)
 ·intro x b hb hx
  obtain ⟨p1,p2⟩:=hloc x b hb
  rcases (hnew b hx).2 with hh | hh
  ·exact p2 hh
  ·omega
 ·intro b hb
  rcases hb with hb | ⟨x,hb⟩
  ·obtain ⟨p1,p2⟩:=hnew b hb
   refine ⟨p1,?_⟩
   rcases p2 with hh | hh
   ·exact (h.lt b (.inl hh)).2
   ·have h2:=h.hs
    exact .inr (by omega)
  ·obtain ⟨p1,p2⟩:=h.lt b (.inr ⟨x,hb⟩)
   have:w.heap.size ≤ w'.heap.size:=k.hs
   exact ⟨by omega,p2⟩
 ·intro b h1 h2
  have hlt:b < w.heap.size:=Nat.lt_of_lt_of_le h1 h.hs
  have hn:b ∉ Fx:=by
   intro hm
   rcases (h.lt b (.inl hm)).2 with hh | hh
   ·exact h2 hh
   ·omega
  obtain ⟨q1,q2⟩:=k.keep b hlt hn
  obtain ⟨q3,q4⟩:=h.keep b h1 h2
  exact ⟨q1.trans q3,fun j=>(q2 j).trans (q4 j)⟩
theorem o_callp {P B g F s a w Q o f xs xs' ats dst r s' ac OO meth} (h : Sm B g F s a w [] [] []) (hd : ∀ k, o.dst = some k → k < B.nt) (hO : CallOK P OO) (hop : o.op = .call { callee := .value (.func f), args := xs', argTypes := ats })
    (hf:f < Q0) (hx:chkXs xs xs'.toList=true) (he:evO OO meth (.callp f xs) s dst=some (r,s',ac)):Done P B o a w Q s' r:=by
 simp only [evO] at he
 split at he
 ·rename_i ds s1 h1
  simp only [Option.map_eq_some_iff] at he
  obtain ⟨d,h2,h3⟩:=he
  cases h3
  obtain ⟨hn,lo',h2⟩:=callpv_inv h2
  obtain ⟨F1,Fy,k,hl⟩:=rxs_sim h hx h1
  have k:Sm B g F1 s' a w ds (List.map a.eval xs'.toList) Fy:=by simpa using k
  have hrun:(execOp a.eval o).run P w=(callFunc f (List.map a.eval xs'.toList).toArray).run P w:=by
   have e1:(List.map a.eval xs'.toList).toArray=xs'.map a.eval:=by apply Array.ext'; simp
   rw [e1]
   simp [execOp,hop,resolve,Deferred.ofValue,invoke,Act.eval]
  obtain ⟨hen,hc⟩:=hO.1 f ds [] d [] lo' hf h2
  intro K hK
  unfold Oper.wp
  rw [hrun,hen]
  refine Calls.mono (hc w ⟨g.im,fun _=>none,fun _=>none,fun _=>none⟩ _ _ _ _ (k.enterp hn)) ?_
  intro e w' he
  cases e with
  | returned v =>
   obtain ⟨g',F',Fx',k'⟩:=he
   exact hK _ _ ((k.backp k').put o.dst hd)
  | panicked _=>exact he.elim
  | outgrown=>exact he.elim
 ·cases he
def kpS (r0:Nat):Site → Bool
 | .gb r=>r == r0
 | _=>true
def hidF (r0:Nat) (F:Site → List Nat):Site → List Nat:=fun x=>if kpS r0 x then [] else F x
def hidG (r0:Nat) (F:Site → List Nat) (n:Nat):List Nat:=(List.range n).flatMap (fun r=>hidF r0 F (.gb r))
theorem hidF_mem {r0 F x b} (h:b ∈ hidF r0 F x):kpS r0 x=false ∧ b ∈ F x:=by
 unfold hidF at h
 split at h
 ·cases h
 ·rename_i hk; exact ⟨by simpa using hk,h⟩
theorem Sm.enterr {B g F s a w ds vs Fx} (h : Sm B g F s a w ds vs Fx) (r0 : Nat) :
    Sm ⟨w,g.im,g.gl,s.sg.set r0 [],Fx ++ hidG r0 F s.sg.length,0⟩ { g with lc:=fun _=>none,gp:=fun r=>if r=r0 then none else g.gp r } (hidF r0 F) ⟨[],[],s.sg.set r0 [],(s.sg.set r0 []).length⟩ ⟨#[],[]⟩ w ds vs Fx:=by
 refine { df:=rfl,nt:=rfl,sl:=by simp [look],ob:=by simp [look],gb:=?_,ex:=h.ex,lcd:=by simp,dslot:=fun _ _=>rfl,dob:=fun _ _=>rfl,dgb:=?_,dj:=⟨?_,?_,?_,h.dj.ndx⟩,lt:=?_,imok:=h.imok,im0:=fun _ _ _ e=>e,gl0:=fun _ _ e=>e,glb:=fun r b e=>by simpa using h.glb r b e,gpl:=?_,gl0b:=fun r b e=>by simpa using h.glb r b e,sgl:=Nat.le_refl _,keep:=fun _ _ _=>⟨rfl,fun _=>rfl⟩,os:=rfl,tape:=rfl,out:=rfl,hs:=Nat.le_refl _,refs:=?_ }
 ·intro r cs hr
  by_cases e:r=r0
  ·subst e
   have hcs:cs=[] := by
    simp only [List.getElem?_set_self'] at hr
    cases e:s.sg[r]? with
    | none=>rw [e] at hr; cases hr
    | some _=>rw [e] at hr; simpa using hr.symm
   exact .inr (.inl ⟨by simp,hcs,by simp [hidF,kpS]⟩)
  ·have hr':s.sg[r]? = some cs:=by
    have:=hr
    simp only at this
    rwa [List.getElem?_set_ne (fun h=>e h.symm)] at this
   have h1:=h.gb r cs hr'
   rw [show hidF r0 F (.gb r)=F (.gb r) by simp [hidF,kpS,e]]
   exact h1.framed (by simp [e]) (fun _ _ e=>e) (fun _ _ _ e=>e) (fun _ _=>⟨fun _=>rfl,rfl⟩)
 ·intro r hr
  have hr':s.sg[r]? = none:=by
   have h1:(s.sg.set r0 []).length ≤ r:=by simpa using hr
   exact List.getElem?_eq_none (by simpa using h1)
  unfold hidF
  split
  ·rfl
  ·exact h.dgb r hr'
 ·intro x y hxy b hb hb'
  exact h.dj.dis _ _ hxy b (hidF_mem hb).2 (hidF_mem hb').2
 ·intro x b hb hx
  exact h.dj.dix _ b (hidF_mem hb).2 hx
 ·intro x
  unfold hidF
  split
  ·exact List.nodup_nil
  ·exact h.dj.nd _
 ·intro b hb
  rcases hb with hb | ⟨x,hb⟩
  ·exact ⟨(h.lt b (.inl hb)).1,.inl (by simp [hb])⟩
  ·obtain ⟨h0,h1⟩:=hidF_mem hb
   refine ⟨(h.lt b (.inr ⟨_,h1⟩)).1,.inl ?_⟩
   cases x with
   | sl k=>simp [kpS] at h0
   | ob k=>simp [kpS] at h0
   | gb r =>
    have hr:r < s.sg.length:=by
     apply Decidable.byContradiction
     intro hr
     have:=h.dgb r (List.getElem?_eq_none (by omega))
     rw [this] at h1; cases h1
    unfold hidG
    simp only [List.mem_append,List.mem_flatMap,List.mem_range]
    exact .inr ⟨r,hr,hb⟩
 ·intro r b e
  simp only at e ⊢
  split at e
  ·cases e
  ·exact h.gpl r b e
 ·intro m r c0 c1 _ e0 e1 hn
  have e0':(s.sg.set r0 [])[r]? = some c0:=e0
  have e1':(s.sg.set r0 [])[r]? = some c1:=e1
  rw [e0'] at e1'; cases e1'; exact hn
theorem Sm.backr {B g F s a w ds vs Fx} (h : Sm B g F s a w ds vs Fx) {r0 g' F' lo' w' d v Fx'}
    (k:Sm ⟨w,g.im,g.gl,s.sg.set r0 [],Fx ++ hidG r0 F s.sg.length,0⟩ g' F' ⟨[],[],s.sg.set r0 [],lo'⟩ ⟨#[],[]⟩ w' [d] [v] Fx') :
    Sm B { g' with lc:=g.lc,gp:=fun r=>if r=r0 then g.gp r0 else g'.gp r } (fun x=>if kpS r0 x then F x else F' x) { s with fr:=forget (Q.glx r0) s.fr } a w' [d] [v] Fx':=by
 have hF0:∀ b,b ∈ Fx ++ hidG r0 F s.sg.length → b ∈ Fx ∨ ∃ x,kpS r0 x=false ∧ b ∈ F x:=by
  intro b hb
  unfold hidG at hb
  simp only [List.mem_append,List.mem_flatMap,List.mem_range] at hb
  rcases hb with hb | ⟨r,_,hb⟩
  ·exact .inl hb
  ·exact .inr ⟨_,hidF_mem hb⟩
 have hF1:∀ b,b ∈ Fx ++ hidG r0 F s.sg.length → Tot F Fx b:=fun b hb=>(hF0 b hb).imp id (fun ⟨x,_,hx⟩=>⟨x,hx⟩)
 have hloc:∀ x,kpS r0 x=true → ∀ b ∈ F x,b < w.heap.size ∧ b ∉ Fx ++ hidG r0 F s.sg.length:=by
  intro x hx b hb
  refine ⟨(h.lt b (.inr ⟨x,hb⟩)).1,fun hm=>?_⟩
  rcases hF0 b hm with hm | ⟨y,hy,hm⟩
  ·exact h.dj.dix x b hb hm
  ·exact h.dj.dis x y (by rintro rfl; rw [hx] at hy; cases hy) b hb hm
 have hkeep:∀ x,kpS r0 x=true → ∀ b ∈ F x,w'.heap[b]? = w.heap[b]? ∧ ∀ j,g'.im b j=g.im b j:=fun x hx b hb=>k.keep b (hloc x hx b hb).1 (hloc x hx b hb).2
 have hrv:∀ x,kpS r0 x=true → ∀ {es us K},(∀ b ∈ K,b ∈ F x) → g.rv w es us K → RVs g'.im g'.gl w' es us K :=
  fun x hx {es us K} hK hr=>hr.frame k.im0 k.gl0 (fun b hb=>⟨(hkeep x hx b (hK b hb)).2,(hkeep x hx b (hK b hb)).1⟩)
 have hown:∀ x,kpS r0 x=true → ∀ {b cs},Own g w b cs (F x) → Own { g' with lc:=g.lc,gp:=fun r=>if r=r0 then g.gp r0 else g'.gp r } w' b cs (F x):=by
  intro x hx b cs ho
  obtain ⟨c,t,f,F1,k1,k2,k3,k4,k5,k6⟩:=ho
  have hb:=hkeep x hx b (by rw [k5]; simp)
  exact ⟨c,t,f,F1,hb.1.trans k1,fun i hi=>(World.frozen?_of_block (w:=w) (w':=w') (a:=⟨b,i,none⟩) hb.1).trans (k2 i hi),k3,fun i=>(hb.2 i).trans (k4 i),k5,hrv x hx (fun c hc=>by rw [k5]; simp [hc]) k6⟩
 have hlen:(s.sg.set r0 []).length=s.sg.length:=by simp
 have new:∀ b,Tot F' Fx' b → b < w'.heap.size ∧ (b ∈ B.F0 ∨ B.w0.heap.size ≤ b):=by
  intro b ht
  obtain ⟨p1,p2⟩:=k.lt b ht
  refine ⟨p1,?_⟩
  rcases p2 with hh | hh
  ·exact (h.lt b (hF1 b hh)).2
  ·have h1:w.heap.size ≤ b:=hh
   have h2:=h.hs
   exact .inr (by omega)
 have cross:∀ x b,kpS r0 x=true → b ∈ F x → ¬ Tot F' Fx' b:=by
  intro x b hx h1 h2
  obtain ⟨p1,p2⟩:=hloc x hx b h1
  rcases (k.lt b h2).2 with hh | hh
  ·exact p2 hh
  ·have:w.heap.size ≤ b:=hh
   omega
 refine { df:=h.df,nt:=h.nt,sl:=?_,ob:=?_,gb:=?_,ex:=k.ex,lcd:=h.lcd,dslot:=?_,dob:=?_,dgb:=?_,dj:=⟨?_,?_,?_,k.dj.ndx⟩,lt:=?_,imok:=k.imok,im0:=fun b j v e=>k.im0 _ _ _ (h.im0 _ _ _ e),gl0:=fun r b e=>k.gl0 _ _ (h.gl0 _ _ e),glb:=fun r b e=>by have h1:r < (s.sg.set r0 []).length:=k.glb r b e; rw [hlen] at h1; exact h1,gpl:=?_,gl0b:=h.gl0b,sgl:=h.sgl,keep:=?_,os:=k.os.trans h.os,tape:=k.tape.trans h.tape,out:=k.out.trans h.out,hs:=Nat.le_trans h.hs k.hs,refs:=h.refs }
 ·intro j r hj
  rw [look_forget] at hj
  cases e:look j s.fr with
  | none=>rw [e] at hj; cases hj
  | some r1 =>
   rw [e] at hj; simp only [Option.map_some] at hj; cases hj
   obtain ⟨v,hv,hr0⟩:=h.sl j r1 e
   refine ⟨v,hv,?_⟩
   refine hr0.forget _ (fun q hpq hqo=>?_) (fun d hd=>hrv (.sl j) rfl (fun b hb=>hb) hd)
   have hpl:∀ pl u,(∀ r off,pl=.gb r off → r=r0) → plHdr g w pl u → plHdr { g' with lc:=g.lc,gp:=fun r=>if r=r0 then g.gp r0 else g'.gp r } w' pl u:=by
    intro pl u hne hp
    cases pl with
    | gb r off =>
     have:=hne r off rfl
     subst this
     obtain ⟨b,e1,e2⟩:=hp
     exact ⟨b,by simpa using e1,(World.cell?_of_block (w:=w) (w':=w') (a:=⟨b,off,none⟩) (hkeep (.gb r) (by simp [kpS]) b (h.blk_gb e1)).1).trans e2⟩
    | ob i off =>
     simp only [plHdr] at hp ⊢
     cases e:g.lc i with
     | none=>rw [e] at hp; exact hp
     | some x =>
      rw [e] at hp
      cases x with
      | inr u'=>exact hp
      | inl b =>
       obtain ⟨ci,hi⟩:=h.lcd i _ e
       exact (World.cell?_of_block (w:=w) (w':=w') (a:=⟨b,off,none⟩) (hkeep (.ob i) rfl b (h.blk_ob hi e)).1).trans hp
   have hgx:∀ pl,(q=.hd pl ∨ ∃ ix fo,q=.el pl ix fo) → ∀ r off,pl=.gb r off → r=r0:=by
    rintro pl (rfl | ⟨ix,fo,rfl⟩) r off rfl <;> simpa [Q.glx] using hpq
   cases q with
   | ptr i off=>exact hqo
   | hdr i=>exact hqo
   | hd pl=>exact hpl pl v (hgx pl (.inl rfl)) hqo
   | el pl ix fo =>
    obtain ⟨b,o,len,cap,sz,xs,h1,h2,h3,h4⟩:=hqo
    exact ⟨b,o,len,cap,sz,xs,hpl pl _ (hgx pl (.inr ⟨_,_,rfl⟩)) h1,by rw [at_fr]; exact h2,h3,h4⟩
 ·intro j cs0 hj
  have:=h.ob j cs0 hj
  unfold obOK at this ⊢
  simp only [kpS,if_true]
  cases e:g.lc j with
  | none=>rw [e] at this; exact this
  | some x =>
   rw [e] at this
   cases x with
   | inr u=>obtain ⟨d,e1,e2⟩:=this; exact ⟨d,e1,hrv (.ob j) rfl (fun b hb=>hb) e2⟩
   | inl b=>exact hown (.ob j) rfl this
 ·intro r cs0 hj
  by_cases e:r=r0
  ·subst e
   simp only [kpS,beq_self_eq_true,if_true]
   exact (h.gb r cs0 hj).framed (by simp) k.gl0 k.im0 (fun b hb=>⟨(hkeep (.gb r) (by simp [kpS]) b hb).2,(hkeep (.gb r) (by simp [kpS]) b hb).1⟩)
  ·have hj':s.sg[r]? = some cs0:=hj
   have h1:=k.gb r cs0 (by simp only; rw [List.getElem?_set_ne (fun h=>e h.symm)]; exact hj')
   simp only [kpS,beq_iff_eq,if_neg e]
   exact h1.framed (by simp [e]) (fun _ _ e=>e) (fun _ _ _ e=>e) (fun _ _=>⟨fun _=>rfl,rfl⟩)
 ·intro j hj
  rw [look_forget] at hj
  simp only [kpS,if_true]
  exact h.dslot j (by cases e:look j s.fr <;> simp [e] at hj ⊢)
 ·intro j hj; simp only [kpS,if_true]; exact h.dob j hj
 ·intro r hj
  have hj':s.sg[r]? = none:=hj
  simp only [kpS,beq_iff_eq]
  split
  ·exact h.dgb r hj'
  ·refine k.dgb r ?_
   have h1:s.sg.length ≤ r:=by simpa using hj'
   exact List.getElem?_eq_none (by simpa using h1)
 ·intro x y hxy b hb hb'
  cases hx:kpS r0 x <;> cases hy:kpS r0 y <;> simp only [hx,hy,if_true,Bool.false_eq_true,if_false] at hb hb'
  ·exact k.dj.dis _ _ hxy b hb hb'
  ·exact cross y b hy hb' (.inr ⟨x,hb⟩)
  ·exact cross x b hx hb (.inr ⟨y,hb'⟩)
  ·exact h.dj.dis _ _ hxy b hb hb'
 ·intro x b hb hx'
  cases hx:kpS r0 x <;> simp only [hx,if_true,Bool.false_eq_true,if_false] at hb
  ·exact k.dj.dix _ b hb hx'
  ·exact cross x b hx hb (.inl hx')
 ·intro x
  cases hx:kpS r0 x <;> simp only [if_true,Bool.false_eq_true,if_false]
  ·exact k.dj.nd _
  ·exact h.dj.nd _
 ·intro b hb
  rcases hb with hb | ⟨x,hb⟩
  ·exact new b (.inl hb)
  ·cases hx:kpS r0 x <;> simp only [hx,if_true,Bool.false_eq_true,if_false] at hb
   ·exact new b (.inr ⟨_,hb⟩)
   ·obtain ⟨p1,p2⟩:=h.lt b (.inr ⟨x,hb⟩)
    have:w.heap.size ≤ w'.heap.size:=k.hs
    exact ⟨by omega,p2⟩
 ·intro r b e
  simp only at e ⊢
  split at e
  ·rename_i e0; subst e0; exact k.gl0 _ _ (h.gpl _ _ e)
  ·exact k.gpl r b e
 ·intro b h1 h2
  have hlt:b < w.heap.size:=Nat.lt_of_lt_of_le h1 h.hs
  have hn:b ∉ Fx ++ hidG r0 F s.sg.length:=by
   intro hm
   rcases (h.lt b (hF1 b hm)).2 with hh | hh
   ·exact h2 hh
   ·omega
  obtain ⟨q1,q2⟩:=k.keep b hlt hn
  obtain ⟨q3,q4⟩:=h.keep b h1 h2
  exact ⟨q1.trans q3,fun j=>(q2 j).trans (q4 j)⟩
theorem o_callr {P B g F s a w Q o f xs x xs' ats dst r s' ac OO meth} (h : Sm B g F s a w [] [] []) (hd : ∀ k, o.dst = some k → k < B.nt) (hO : CallOK P OO) (hop : o.op = .call { callee := .value (.func f), args := xs', argTypes := ats })
    (hf:f < Q0) (ht:∃ n,x=.t n) (hx:chkXs xs xs'.toList=true) (he:evO OO meth (.callr f xs x) s dst=some (r,s',ac)):Done P B o a w Q s' r:=by
 simp only [evO] at he
 split at he
 ·rename_i r0 off s0 h0
  have hs0:s0=s:=by
   obtain ⟨n,rfl⟩:=ht
   have h1:=rxv_some h0
   simp only [rx] at h1
   split at h1
   ·split at h1
    ·cases h1; rfl
    ·cases h1
   ·cases h1
   ·cases h1
  subst hs0
  split at he
  ·rename_i ds s1 h1
   simp only [Option.map_eq_some_iff] at he
   obtain ⟨d,h2,h3⟩:=he
   cases h3
   obtain ⟨lo',h2⟩:=callrv_inv h2
   obtain ⟨F1,Fy,k,hl⟩:=rxs_sim h hx h1
   have k:Sm B g F1 s1 a w ds (List.map a.eval xs'.toList) Fy:=by simpa using k
   have hrun:(execOp a.eval o).run P w=(callFunc f (List.map a.eval xs'.toList).toArray).run P w:=by
    have e1:(List.map a.eval xs'.toList).toArray=xs'.map a.eval:=by apply Array.ext'; simp
    rw [e1]
    simp [execOp,hop,resolve,Deferred.ofValue,invoke,Act.eval]
   obtain ⟨hen,hc⟩:=hO.1 f ds (s1.sg.set r0 []) d (s1.sg.set r0 []) lo' hf h2
   intro K hK
   unfold Oper.wp
   rw [hrun,hen]
   refine Calls.mono (hc w { g with lc:=fun _=>none,gp:=fun r=>if r=r0 then none else g.gp r } _ _ _ _ (k.enterr r0)) ?_
   intro e w' he
   cases e with
   | returned v =>
    obtain ⟨g',F',Fx',k'⟩:=he
    exact hK _ _ ((k.backr k').put o.dst hd)
   | panicked _=>exact he.elim
   | outgrown=>exact he.elim
  ·cases he
 ·cases he
theorem o_callv {P B g F s a w Q o x xs x' xs' ats dst r s' ac OO meth} (h : Sm B g F s a w [] [] []) (hd : ∀ k, o.dst = some k → k < B.nt) (hO : CallOK P OO) (hop : o.op = .call { callee := .value x', args := xs', argTypes := ats })
    (hx0:chkX x x'=true) (hx:chkXs xs xs'.toList=true) (he:evO OO meth (.callv x xs) s dst=some (r,s',ac)):Done P B o a w Q s' r:=by
 simp only [evO] at he
 split at he
 ·rename_i f cs s1 h1
  split at he
  ·rename_i ds s2 h2
   simp only [Option.map_eq_some_iff] at he
   obtain ⟨⟨d,sg',lo'⟩,h3,h4⟩:=he
   cases h4
   obtain ⟨F1,Fy,k1⟩:=rx1_sim h hx0 h1
   obtain ⟨F2,Fz,k2,hl⟩:=rxs_sim k1 hx h2
   obtain ⟨us',ts,A,C,e1,e2,l1,r1,r2⟩:=RVs.append_inv [_] k2.ex
   obtain ⟨v,rfl⟩:=r1.single
   simp only [List.cons_append,List.nil_append,List.cons.injEq] at e1
   obtain ⟨ev,rfl⟩:=e1
   have hnd:=k2.dj.ndx
   rw [e2] at hnd
   cases r1 with
   | fn _ _ us hg hc hr =>
    cases hr
    have k3:=k2.weaken (ds ++ cs) (List.map a.eval xs'.toList ++ us) (C ++ []) (r2.append hc) (fun b hb=>by rw [e2]; simpa using hb) (by simpa using hnd)
    refine call_done k3 hd hg hO h3 ?_
    have e1:(List.map a.eval xs'.toList ++ us).toArray=xs'.map a.eval ++ us.toArray:=by apply Array.ext'; simp
    rw [e1]
    simp [execOp,hop,resolve,Deferred.ofValue,invoke,ev]
  ·cases he
 ·cases he
def MethOK (P:Program) (meth:TypeId → String → Option FuncId):Prop :=
 ∀ t nm f,meth t nm=some f → (f < Q0 → ∀ v w,(method (P.types.size + Made.depth) t v nm).run P w=.ok (f,v) w) ∧
  (Q0 ≤ f → ∀ b off u w,World.cell? w ⟨b,off,none⟩=some u → (method (P.types.size + Made.depth) t (.pointer (some ⟨b,off,none⟩)) nm).run P w=.ok (f - Q0,u) w) ∧ NilOK P t nm f
theorem o_inv {P B g F s a w Q o nm x xs x' xs' ats dst r s' ac OO meth} (h : Sm B g F s a w [] [] []) (hd : ∀ k, o.dst = some k → k < B.nt) (hO : CallOK P OO) (hM : MethOK P meth) (hop : o.op = .call { callee := .invoke x' nm, args := xs', argTypes := ats })
    (hx0:chkX x x'=true) (hx:chkXs xs xs'.toList=true) (he:evO OO meth (.inv nm x xs) s dst=some (r,s',ac)):Done P B o a w Q s' r:=by
 simp only [evO] at he
 split at he
 ·rename_i t v s1 h1
  split at he
  ·rename_i f hf
   split at he
   ·rename_i ds s2 h2
    simp only [Option.map_eq_some_iff] at he
    obtain ⟨⟨d,sg',lo'⟩,h3,h4⟩:=he
    cases h4
    obtain ⟨F1,Fy,k1⟩:=rx1_sim h hx0 h1
    obtain ⟨F2,Fz,k2,hl⟩:=rxs_sim k1 hx h2
    obtain ⟨us',ts,A,C,e1,e2,l1,r1,r2⟩:=RVs.append_inv [_] k2.ex
    obtain ⟨v',rfl⟩:=r1.single
    simp only [List.cons_append,List.nil_append,List.cons.injEq] at e1
    obtain ⟨ev,rfl⟩:=e1
    have hnd:=k2.dj.ndx
    rw [e2] at hnd
    cases r1 with
    | ic _ _ u hc hr =>
     cases hr
     have e3:Array.extract (#[Value.iface t u] ++ Array.map a.eval xs') 1 (#[Value.iface t u] ++ Array.map a.eval xs').size=Array.map a.eval xs':=by
      apply Array.ext'; simp
      exact List.take_of_length_le (by simp)
     have e4:(#[Value.iface t u] ++ Array.map a.eval xs')[0]? = some (Value.iface t u):=by
      rw [Array.getElem?_append_left (by simp)]; rfl
     have hrun:∀ f' u',(method (P.types.size + Made.depth) t u nm).run P w=.ok (f',u') w → (execOp a.eval o).run P w=(callFunc f' (u' :: List.map a.eval xs'.toList).toArray).run P w:=by
      intro f' u' hm
      have e1:(u' :: List.map a.eval xs'.toList).toArray=#[u'] ++ xs'.map a.eval:=by apply Array.ext'; simp
      rw [e1]
      simp only [execOp,hop,resolve,ev,Sem.run_bind,Sem.run_pure,Result.andThen_ok,invoke]
      rw [e4]
      simp only [callMethod,e3,Sem.run_bind,Result.andThen_ok]
      simp [hm]
     by_cases hq:f < Q0
     ·have k3:=k2.weaken (v :: ds) (u :: List.map a.eval xs'.toList) ([] ++ C) (hc.append r2) (fun b hb=>by rw [e2]; simpa using hb) (by simpa using hnd)
      exact call_done k3 hd hq hO h3 (hrun _ _ ((hM t nm f hf).1 hq u w))
     ·have hq':Q0 ≤ f:=Nat.le_of_not_lt hq
      have k3:=k2.weaken ds (List.map a.eval xs'.toList) C r2 (fun b hb=>by rw [e2]; simpa using hb) (by simpa using hnd)
      obtain ⟨r,off,_,e0,⟨cs,d0,hcs,hd0⟩,_,_⟩:=hO.2.1 f _ _ d sg' lo' hq' h3
      cases e0
      have hpv:∃ b,u=.pointer (some ⟨b,off,none⟩) ∧ g.gl r=some (b,false):=by
       cases hc with
       | p r off b hb hr=>cases hr; exact ⟨b,rfl,hb⟩
      obtain ⟨b,rfl,hb⟩:=hpv
      have hcs':s2.sg[r]? = some cs:=hcs
      obtain ⟨b',e5,hown⟩:=(k3.gb r cs hcs').ex (ne_of_get hd0) hb
      have e6:=k3.gpl r b' e5
      rw [hb] at e6; cases e6
      obtain ⟨c,tt,fz,F',q1,_,_,_,_,q6⟩:=hown
      have hoff:off < c.toList.length:=by
       rw [← q6.length]; rw [List.getElem?_eq_some_iff] at hd0; exact hd0.1
      have hcell:w.cell? ⟨b,off,none⟩=some c.toList[off] := by
       have hoff':off < c.size:=by simpa using hoff
       simp [World.cell?,q1,hoff']
      exact callq_done k3 hd hq' hO h3 ⟨b,e5,hcell⟩ (hrun _ _ ((hM t nm f hf).2.1 hq' b off _ w hcell))
   ·cases he
  ·cases he
 ·cases he
end Go.AM

namespace Go.AM
theorem put_same {a:Act} {k:Nat} {v:Value} (h:a.tmps[k]? = some v):a.put (some k) v=a:=by
 obtain ⟨t,d⟩:=a
 simp only [Act.put]
 congr 1
 apply Array.ext_getElem?
 intro j
 by_cases e:k=j
 ·subst e
  have:k < t.size:=by rw [Array.getElem?_eq_some_iff] at h; exact h.1
  rw [Array.getElem?_setIfInBounds_self_of_lt this]; exact h.symm
 ·rw [Array.getElem?_setIfInBounds_ne e]
theorem Sm.slot_lt {B g F s a w ds vs Fx} (h:Sm B g F s a w ds vs Fx) {k v} (hv:a.tmps[k]? = some v):k < B.nt:=by
 rw [← h.nt]; rw [Array.getElem?_eq_some_iff] at hv; exact hv.1
theorem gh_fz {B g F s a w k s'} (h:Sm B g F s a w [] [] []) (he:evG (.fz k) s=some s'):Sim B s' a w:=by
 simp only [evG] at he
 split at he
 ·rename_i d hk
  cases he
  obtain ⟨v,hv,hr,h1,_⟩:=h.take hk
  have k1:=h1 d rfl
  simp only [List.nil_append] at k1
  obtain ⟨im',F',hset,hsub,hr'⟩:=RVs.fo (ds:=[d]) k1.ex k1.dj.ndx
  have hch:Chg B g { g with im:=im' } w w (F (.sl k)):=Chg.set hset k1.imok
  have k2:=k1.setx hch (ds':=[d.fo]) (vs':=[v]) (Fx':=F') (by simpa [D.fos] using hr') (hsub.nodup k1.dj.ndx) hsub.subset
  have:=k2.put (some k) (fun j e=>by cases e; exact h.slot_lt hv)
  rw [put_same hv] at this
  exact this
 ·cases he
theorem zzs_append:∀ (a b:List D),D.zzs (a ++ b)=D.zzs a ++ D.zzs b
 | [],_=>rfl
 | d :: a,b=>by simp [D.zzs,zzs_append a b]
theorem zz_cells (d:D):(D.zz d).cells=D.zzs d.cells:=by
 cases d <;> rfl
theorem zzs_length:∀ (a:List D),(D.zzs a).length=a.length
 | [] => rfl
 | d :: a=>by simp [D.zzs,zzs_length a]
theorem zzs_map:∀ (a:List D),D.zzs a=a.map D.zz
 | [] => rfl
 | d :: a=>by simp [D.zzs,zzs_map a]
theorem cellsOf_zzs:∀ (xs:List D),cellsOf (D.zzs xs)=D.zzs (cellsOf xs)
 | [] => rfl
 | d :: xs=>by
  have:=cellsOf_zzs xs
  simp only [cellsOf,D.zzs,List.flatMap_cons] at this ⊢
  rw [this,zz_cells,zzs_append]
mutual
theorem zz_fz:∀ d:D,D.zz (D.fz d)=D.zz d
 | .l k sz xs=>by cases k <;> simp [D.fz,D.zz,zzs_fzs xs]
 | .a cs=>by simp [D.fz,D.zz,zzs_fzs cs]
 | .t cs=>by simp [D.fz,D.zz,zzs_fzs cs]
 | .b _ | .i _ _ | .f _ _ | .s _ | .nilp | .p _ _ | .q _ _ | .ic _ _ | .bm _ _ | .nili | .fn _ _ | .nilf | .mp | .mo _ | .u | .w=>by simp [D.fz]
theorem zzs_fzs:∀ ds:List D,D.zzs (D.fzs ds)=D.zzs ds
 | [] => rfl
 | d :: ds=>by simp [D.fzs,D.zzs,zz_fz d,zzs_fzs ds]
end
theorem RVs.zz {im gl w ds vs F} (h:RVs im gl w ds vs F) (hF:F=[]):RVs im gl w (D.zzs ds) vs [] := by
 induction h with
 | nil=>exact .nil
 | b x _ ih=>exact .b x (ih hF)
 | i k n _ ih=>exact .i k n (ih hF)
 | f k n _ ih=>exact .f k n (ih hF)
 | s x _ ih=>exact .s x (ih hF)
 | nilp _ ih=>exact .nilp (ih hF)
 | p r off b hb _ ih=>exact .p r off b hb (ih hF)
 | q cs off b o us hu h1 hc _ _ ih=>exact .q cs off b o us hu h1 hc (ih hF)
 | lnil k sz _ ih=>exact .lnil _ sz (ih hF)
 | lez k hk sz x cap hn _ ih=>exact .lez .z (.inl rfl) sz x cap (fun e=>nomatch e) (ih hF)
 | lz k hk sz xs b o cap us hcap hn hs hu h1 hc _ ihc ih =>
  have:=RVs.lz (im:=im) (gl:=gl) (w:=w) .z (.inl rfl) sz (D.zzs xs) b o cap us (by rw [zzs_length]; exact hcap) (fun e=>nomatch e)
   (by rw [zzs_map]; intro x hx; obtain ⟨y,hy,rfl⟩:=List.mem_map.1 hx; rw [zz_cells,zzs_length]; exact hs y hy) hu h1
   (by rw [cellsOf_zzs]; exact ihc rfl) (ih hF)
  rw [zzs_length] at this
  exact this
 | lo sz xs b o cap us hcap hs hu h1 hr hi hc _ _ ih=>cases hF
 | lx sz xs b o cap us hcap hs hu h1 hr hi hc _ _ ih=>cases hF
 | a cs us h1 hc _ ihc ih =>
  obtain ⟨rfl,rfl⟩:=List.append_eq_nil_iff.1 hF
  exact .a (D.zzs cs) us h1 (ihc rfl) (ih rfl)
 | t cs us hc _ ihc ih =>
  obtain ⟨rfl,rfl⟩:=List.append_eq_nil_iff.1 hF
  exact .t (D.zzs cs) us (ihc rfl) (ih rfl)
 | ic ty d v hc _ _ ih=>exact .ic ty d v hc (ih hF)
 | bm nm d v hc _ _ ih=>exact .bm nm d v hc (ih hF)
 | nili _ ih=>exact .nili (ih hF)
 | fn g cs us hg hc _ _ ih=>exact .fn g cs us hg hc (ih hF)
 | nilf _ ih=>exact .nilf (ih hF)
 | mp r _ ih=>exact .mp r (ih hF)
 | mo r b hb _ ih=>exact .mo r b hb (ih hF)
 | u _ ih=>exact .u (ih hF)
 | w v _ ih=>exact .w v (ih hF)
theorem gh_zz {B g F s a w k s'} (h:Sm B g F s a w [] [] []) (he:evG (.zz k) s=some s'):Sim B s' a w:=by
 simp only [evG] at he
 split at he
 ·rename_i d hk
  cases he
  obtain ⟨v,hv,hr,h1,_⟩:=h.take hk
  have k1:=h1 d rfl
  simp only [List.nil_append] at k1
  obtain ⟨g',k2⟩:=k1.froze
  have hr2:RVs g'.im g'.gl w (D.zzs [d.fz]) [v] [] := k2.ex.zz rfl
  have e:D.zzs [d.fz] = [d.zz] := by simp [D.zzs,zz_fz]
  rw [e] at hr2
  have k3:={ k2 with ex:=hr2 }
  have:=Sm.put (d:=d.zz) k3 (some k) (fun j e=>by cases e; exact h.slot_lt hv)
  rw [put_same hv] at this
  exact this
 ·cases he
theorem gh_fzo {B g F s a w k s'} (h:Sm B g F s a w [] [] []) (he:evG (.fzo k) s=some s'):Sim B s' a w:=by
 simp only [evG] at he
 split at he
 ·rename_i cs hk
  cases he
  have hob:=h.ob k cs hk
  unfold obOK at hob
  have hq:∀ (g':G) q v,g'.lc=g.lc → AM.Q.bor k q=false → qOK g w s q v → AM.Q.ofk k q=true → qOK g' w { s with ob:=(k,D.fos cs) :: s.ob,fr:=forget (AM.Q.bor k) s.fr } q v :=
   fun g' q v hl hp hqo hok=>bor_ptr hp hok hqo (fun j x e=>by rw [hl]; exact e)
  split at hob
  ·rename_i b hl
   obtain ⟨c,t,f,F1,k1,k2,k3,k4,k5,k6⟩:=hob
   have hnd:=h.dj.nd (.ob k)
   rw [k5] at hnd
   obtain ⟨hb1,hnd1⟩:=List.nodup_cons.1 hnd
   obtain ⟨im',F',hset,hsub,hr'⟩:=RVs.fo k6 hnd1
   have hch:Chg B g { g with im:=im' } w w (F (.ob k) ++ []):=Chg.set (hset.mono (fun b hb=>by rw [k5]; simp [hb])) h.imok
   have hbs:∀ x,x ∈ b :: F' → x ∈ F (.ob k):=by
    intro x hx
    rw [k5]
    rcases List.mem_cons.1 hx with rfl | hx
    ·simp
    ·exact List.mem_cons_of_mem _ (hsub.subset hx)
   have k7:=h.setob (g':={ g with im:=im' }) (L':=b :: F') k (D.fos cs) (AM.Q.bor k) ⟨cs,hk⟩ hch
    (by unfold obOK; simp only [hl]; exact ⟨c,t,f,F',k1,k2,k3,fun j=>(hset.same b hb1 j).trans (k4 j),rfl,hr'⟩) .nil
    (by simpa using ⟨fun hm=>hb1 (hsub.subset hm),hsub.nodup hnd1⟩) (fun x hx=>by simpa using hbs x (by simpa using hx)) (fun q v hp hqo hok=>hq _ q v rfl hp hqo hok)
   exact ⟨_,_,k7⟩
  ·rename_i v hl
   obtain ⟨d,rfl,hr⟩:=hob
   obtain ⟨im',F',hset,hsub,hr'⟩:=RVs.fo hr (h.dj.nd _)
   have hch:Chg B g { g with im:=im' } w w (F (.ob k) ++ []):=Chg.set (hset.mono (fun b hb=>by simp [hb])) h.imok
   have k7:=h.setob (g':={ g with im:=im' }) (L':=F') k (D.fos [d]) (AM.Q.bor k) ⟨_,hk⟩ hch
    (by unfold obOK; simp only [hl]; exact ⟨d.fo,by simp [D.fos],by simpa [D.fos] using hr'⟩) .nil (by simpa using hsub.nodup (h.dj.nd _)) (fun x hx=>by simpa using hsub.subset (by simpa using hx)) (fun q v hp hqo hok=>hq _ q v rfl hp hqo hok)
   exact ⟨_,_,k7⟩
  ·exact hob.elim
 ·cases he
theorem Sm.newhd {B g F s a w d v Fx} (h : Sm B g F s a w [d] [v] Fx) (k : Nat) :
    Sm B { g with lc:=fun j=>if j=k then some (.inr v) else g.lc j } (ups F (.ob k) Fx) { s with ob:=(k,[d]) :: s.ob,fr:=forget (Q.ofk k) s.fr } a w [] [] [] := by
 refine { h with sl:=?_,ob:=?_,gb:=?_,ex:=.nil,lcd:=?_,dslot:=?_,dob:=?_,dgb:=?_,dj:=?_,lt:=?_ }
 ·intro j r hj
  rw [look_forget] at hj
  cases e:look j s.fr with
  | none=>rw [e] at hj; cases hj
  | some r0 =>
   rw [e] at hj; simp only [Option.map_some] at hj; cases hj
   obtain ⟨u,hv,hr0⟩:=h.sl j r0 e
   refine ⟨u,hv,?_⟩
   rw [ups_ne _ _ (by simp)]
   refine hr0.forget _ (fun q hq hqo=>?_) (fun d hd=>hd)
   refine hqo.other hq (fun i hi=>by simp [hi]) (fun _ _ e=>e) ?_ ?_
   ·intro pl u hne hp
    cases pl with
    | ob i off =>
     have hik:i ≠ k:=fun e=>hne off (by rw [e])
     simpa [plHdr,hik] using hp
    | gb r off=>exact hp
   ·intro pl hne
    cases pl with
    | ob i off =>
     have hik:¬ k=i:=fun e=>hne off (by rw [e])
     simp [St.at,look_cons,hik]
    | gb r off=>rfl
 ·intro j cs' hj
  simp only [look_cons] at hj
  split at hj
  ·rename_i e; subst e
   cases hj
   simp only [obOK,if_true]
   rw [ups_same]
   exact ⟨d,rfl,h.ex⟩
  ·rename_i hne
   have:=h.ob j cs' hj
   rw [ups_ne _ _ (by simp; omega)]
   unfold obOK at this ⊢
   dsimp only
   rw [if_neg (by omega)]
   cases e:g.lc j with
   | none=>rw [e] at this; exact this
   | some x=>rw [e] at this; cases x <;> exact this
 ·intro r cs' hj
  rw [ups_ne _ _ (by simp)]
  exact h.gb r cs' hj
 ·intro j x hj
  simp only [look_cons]
  split
  ·exact ⟨_,rfl⟩
  ·rename_i hne
   dsimp only at hj
   rw [if_neg (by omega)] at hj
   exact h.lcd j x hj
 ·intro j hj
  rw [look_forget] at hj
  rw [ups_ne _ _ (by simp)]
  exact h.dslot j (by cases e:look j s.fr <;> simp [e] at hj ⊢)
 ·intro j hj
  simp only [look_cons] at hj
  split at hj
  ·cases hj
  ·rename_i hne; rw [ups_ne _ _ (by simp; omega)]; exact h.dob j hj
 ·intro j hj; rw [ups_ne _ _ (by simp)]; exact h.dgb j hj
 ·exact Dj.into (L:=Fx) (Fx:=[]) (by simpa using h.dj) _
 ·intro b hb
  rcases hb.ups with hb | hb
  ·exact h.lt b (.inl hb)
  ·exact h.lt b (hb.sub (by simp))
theorem Sm.outhd {B g F s a w j d v} (h : Sm B g F s a w [] [] []) (hj : look j s.ob = some [d]) (hl : g.lc j = some (.inr v)) :
    Sm B { g with lc:=fun i=>if i=j then none else g.lc i } (ups F (.ob j) []) { s with ob:=drp j s.ob,fr:=forget (Q.ofk j) s.fr } a w [d] [v] (F (.ob j)):=by
 have hob:=h.ob j _ hj
 unfold obOK at hob
 rw [hl] at hob
 obtain ⟨d',e1,hr⟩:=hob
 cases e1
 refine { h with sl:=?_,ob:=?_,gb:=?_,ex:=hr,lcd:=?_,dslot:=?_,dob:=?_,dgb:=?_,dj:=by simpa using h.dj.out (.ob j),lt:=?_ }
 ·intro i r hi
  rw [look_forget] at hi
  cases e:look i s.fr with
  | none=>rw [e] at hi; cases hi
  | some r0 =>
   rw [e] at hi; simp only [Option.map_some] at hi; cases hi
   obtain ⟨u,hv,hr0⟩:=h.sl i r0 e
   refine ⟨u,hv,?_⟩
   rw [ups_ne _ _ (by simp)]
   refine hr0.forget _ (fun q hq hqo=>?_) (fun d hd=>hd)
   refine hqo.other hq (fun i hi=>by simp [hi]) (fun _ _ e=>e) ?_ ?_
   ·intro pl u hne hp
    cases pl with
    | ob i off =>
     have hik:i ≠ j:=fun e=>hne off (by rw [e])
     simpa [plHdr,hik] using hp
    | gb r off=>exact hp
   ·intro pl hne
    cases pl with
    | ob i off =>
     have hik:¬ i=j:=fun e=>hne off (by rw [e])
     simp [St.at,look_drp,hik]
    | gb r off=>rfl
 ·intro i cs' hi
  rw [look_drp] at hi
  split at hi
  ·cases hi
  ·rename_i hne
   have:=h.ob i cs' hi
   rw [ups_ne _ _ (by simp; omega)]
   unfold obOK at this ⊢
   dsimp only
   rw [if_neg hne]
   cases e:g.lc i with
   | none=>rw [e] at this; exact this
   | some x=>rw [e] at this; cases x <;> exact this
 ·intro r cs' hi
  rw [ups_ne _ _ (by simp)]
  exact h.gb r cs' hi
 ·intro i x hi
  dsimp only at hi
  split at hi
  ·cases hi
  ·rename_i hne
   rw [look_drp,if_neg hne]
   exact h.lcd i x hi
 ·intro i hi
  rw [look_forget] at hi
  rw [ups_ne _ _ (by simp)]
  exact h.dslot i (by cases e:look i s.fr <;> simp [e] at hi ⊢)
 ·intro i hi
  rw [look_drp] at hi
  split at hi
  ·rename_i e; subst e; exact ups_same _ _ _
  ·rename_i hne; rw [ups_ne _ _ (by simpa using hne)]; exact h.dob i hi
 ·intro i hi; rw [ups_ne _ _ (by simp)]; exact h.dgb i hi
 ·intro b hb
  rcases hb with hb | ⟨x,hb⟩
  ·exact h.lt b (.inr ⟨_,hb⟩)
  ·unfold ups at hb; split at hb
   ·cases hb
   ·exact h.lt b (.inr ⟨x,hb⟩)
theorem gh_thaw {B g F s a w k s'} (h:Sm B g F s a w [] [] []) (he:evG (.thaw k) s=some s'):Sim B s' a w:=by
 simp only [evG] at he
 split at he
 ·rename_i sz xs hk
  cases he
  obtain ⟨v,hv,hr,h1,_⟩:=h.take hk
  have k1:=h1 _ rfl
  simp only [List.nil_append] at k1
  have k2:=k1.newhd k
  have:=k2.putr (r:=.q (.hdr k)) (v:=v) (L:=[]) ⟨rfl,by simp [qOK]⟩ (by simp) List.nodup_nil (some k) (fun j e=>by cases e; exact h.slot_lt hv)
  rw [put_same hv] at this
  exact this
 ·cases he; exact ⟨g,F,h⟩
 ·cases he
theorem gh_unth {B g F s a w k s'} (h:Sm B g F s a w [] [] []) (he:evG (.unth k) s=some s'):Sim B s' a w:=by
 simp only [evG] at he
 split at he
 ·rename_i j hk
  split at he
  ·rename_i d hj
   cases he
   obtain ⟨v,hv,hr⟩:=h.sl k _ hk
   have hl:g.lc j=some (.inr v):=hr.2
   have k1:=h.outhd hj hl
   have:=k1.put (some k) (fun i e=>by cases e; exact h.slot_lt hv)
   rw [put_same hv] at this
   exact this
  ·cases he
 ·cases he; exact ⟨g,F,h⟩
 ·cases he
theorem gh_sim {B s a w}:∀ {gs:List Gh} {s'},Sim B s a w → evGs gs s=some s' → Sim B s' a w:=by
 intro gs
 induction gs generalizing s with
 | nil=>intro s' h he; simp [evGs] at he; subst he; exact h
 | cons x gs ih =>
  intro s' h he
  simp only [evGs] at he
  split at he
  ·rename_i s1 h1
   obtain ⟨g,F,hs⟩:=h
   refine ih ?_ he
   cases x with
   | fz k=>exact gh_fz hs h1
   | zz k=>exact gh_zz hs h1
   | fzo k=>exact gh_fzo hs h1
   | thaw k=>exact gh_thaw hs h1
   | unth k=>exact gh_unth hs h1
  ·cases he
theorem Sm.kept {B g F s a w} (h : Sm B g F s a w [] [] []) (ls os : List Nat) (fr' : List (Nat × R)) (ob' : List (Nat × List D))
    (hfr:∀ j,look j fr'=(if j ∈ ls then look j s.fr else none).map (fgt (Q.dead os))) (hob:∀ j,look j ob'=if j ∈ os then look j s.ob else none) :
    Sim B { s with fr:=fr',ob:=ob' } a w:=by
 refine ⟨{ g with lc:=fun j=>if j ∈ os then g.lc j else none },fun x=>match x with
  | .sl k=>if k ∈ ls then F (.sl k) else []
  | .ob k=>if k ∈ os then F (.ob k) else []
  | .gb r=>F (.gb r),?_⟩
 have hsub:∀ x b,b ∈ (match x with
  | Site.sl k=>if k ∈ ls then F (.sl k) else []
  | .ob k=>if k ∈ os then F (.ob k) else []
  | .gb r=>F (.gb r)) → b ∈ F x:=by
  intro x b hb
  cases x with
  | sl k=>simp only at hb; split at hb; exact hb; cases hb
  | ob k=>simp only at hb; split at hb; exact hb; cases hb
  | gb r=>exact hb
 refine { h with sl:=?_,ob:=?_,gb:=?_,ex:=.nil,lcd:=?_,dslot:=?_,dob:=?_,dgb:=h.dgb,dj:=⟨?_,?_,?_,List.nodup_nil⟩,lt:=?_ }
 ·intro j r hj
  rw [hfr] at hj
  split at hj
  ·rename_i hjl
   cases e:look j s.fr with
   | none=>rw [e] at hj; cases hj
   | some r0 =>
    rw [e] at hj; simp only [Option.map_some] at hj; cases hj
    obtain ⟨u,hv,hr0⟩:=h.sl j r0 e
    refine ⟨u,hv,?_⟩
    simp only [if_pos hjl]
    refine hr0.forget _ (fun q hq hqo=>?_) (fun d hd=>hd)
    have hpl:∀ pl u,(∀ i off,pl=.ob i off → i ∈ os) → plHdr g w pl u → plHdr { g with lc:=fun j=>if j ∈ os then g.lc j else none } w pl u:=by
     intro pl u hi hp
     cases pl with
     | ob i off=>simpa [plHdr,hi i off rfl] using hp
     | gb r off=>exact hp
    have hat:∀ pl,(∀ i off,pl=.ob i off → i ∈ os) → St.at { s with fr:=fr',ob:=ob' } pl=s.at pl:=by
     intro pl hi
     cases pl with
     | ob i off=>simp [St.at,hob,hi i off rfl]
     | gb r off=>rfl
    cases q with
    | ptr i off =>
     obtain ⟨b,e1,e2⟩:=hqo
     have hi:i ∈ os:=by simpa [Q.dead] using hq
     exact ⟨b,by simp [hi,e1],e2⟩
    | hdr i =>
     have hi:i ∈ os:=by simpa [Q.dead] using hq
     have:g.lc i=some (.inr u):=hqo
     simp [qOK,hi,this]
    | hd pl =>
     refine hpl pl u ?_ hqo
     rintro i off rfl
     simpa [Q.dead] using hq
    | el pl ix fo =>
     have hi:∀ i off,pl=.ob i off → i ∈ os:=by
      rintro i off rfl
      simpa [Q.dead] using hq
     obtain ⟨b,o,len,cap,sz,xs,h1,h2,h3,h4⟩:=hqo
     exact ⟨b,o,len,cap,sz,xs,hpl _ _ hi h1,(hat pl hi).trans h2,h3,h4⟩
  ·cases hj
 ·intro j cs' hj
  rw [hob] at hj
  split at hj
  ·rename_i hjo
   have:=h.ob j cs' hj
   unfold obOK at this ⊢
   simp only [if_pos hjo]
   cases e:g.lc j with
   | none=>rw [e] at this; exact this
   | some x=>rw [e] at this; cases x <;> exact this
  ·cases hj
 ·intro r cs' hj; exact h.gb r cs' hj
 ·intro j x hj
  dsimp only at hj
  split at hj
  ·rename_i hjo
   rw [hob,if_pos hjo]; exact h.lcd j x hj
  ·cases hj
 ·intro j hj
  rw [hfr] at hj
  simp only
  split
  ·rename_i hjl
   rw [if_pos hjl] at hj
   exact h.dslot j (by cases e:look j s.fr <;> simp [e] at hj ⊢)
  ·rfl
 ·intro j hj
  rw [hob] at hj
  simp only
  split
  ·rename_i hjo; rw [if_pos hjo] at hj; exact h.dob j hj
  ·rfl
 ·intro x y hxy b hb hb'
  exact h.dj.dis x y hxy b (hsub x b hb) (hsub y b hb')
 ·intro x b hb hx; cases hx
 ·intro x
  cases x with
  | sl k=>simp only; split; exact h.dj.nd _; exact List.nodup_nil
  | ob k=>simp only; split; exact h.dj.nd _; exact List.nodup_nil
  | gb r=>exact h.dj.nd _
 ·intro b hb
  rcases hb with hb | ⟨x,hb⟩
  ·cases hb
  ·exact h.lt b (.inr ⟨x,hsub x b hb⟩)
theorem keep_sim {B s a w} (h:Sim B s a w) (ls os:List Nat):Sim B { s with fr:=forget (Q.dead os) (keep ls s.fr),ob:=keep os s.ob } a w:=by
 obtain ⟨g,F,hs⟩:=h
 exact hs.kept ls os _ _ (fun j=>by rw [look_forget,look_keep]) (fun j=>look_keep j s.ob os)
end Go.AM

namespace Go.AM
theorem run_mark {P:Program} {w:World} {b o:Nat} {c:Array Value} {t:TypeId} {f:Nat × Nat} (h:w.heap[b]? = some (.cells c t f)):(markStringish ⟨b,o,none⟩).run P w=.ok () (w.freeze ⟨b,c.size,none⟩ 1):=by
 simp [markStringish,World.shape?,h]
theorem run_s2b {P : Program} (w : World) (e : TypeId) (s : ByteArray) (cs : Array Value) (hcs : cs = s.data.map (fun b => Value.int .u8 b.toNat) ++ Array.replicate (grownCap w s.size 0 e - s.size) (.int .u8 0)) :
    (Conv.stringToBytes e s).run P w=.ok (.slice (some ⟨w.heap.size,0,none⟩) s.size (grownCap w s.size 0 e)) ((w.drew.alloc (.cells cs e)).freeze ⟨w.heap.size,cs.size,none⟩ 1):=by
 have hm:=run_mark (P:=P) (o:=0) (heap_alloc_new w.drew (.cells cs e))
 subst hcs
 simp only [Conv.stringToBytes,Sem.run_bind]
 simp [Question.forced,newRow]
 simp [grownCap] at hm ⊢
 rw [hm]
 simp
theorem heap_freeze {w:World} {b n:Nat} {c:Array Value} {t:TypeId} (h:w.heap[b]? = some (.cells c t (0,0))):(w.freeze ⟨b,n,none⟩ 1).heap[b]? = some (.cells c t (n,n + 1)):=by
 simp [World.freeze,Array.getElem?_modify,h]
theorem freeze_block {w : World} {b n : Nat} {c : Array Value} {t : TypeId} {f : Nat × Nat} (h : w.heap[b]? = some (.cells c t f)) :
    (w.freeze ⟨b,n,none⟩ 1).heap[b]? = some (.cells c t (if f.1 == f.2 then (n,n + 1) else (min f.1 n,max f.2 (n + 1)))):=by
 obtain ⟨lo,hi⟩:=f
 simp only [World.freeze,if_neg (show ¬ (1:Nat)=0 by omega)]
 rw [Array.getElem?_modify,if_pos rfl,h]
 rfl
theorem Sm.marked {B g F s a w d v Fx} {b : Nat} {c : Array Value} {t : TypeId} {f : Nat × Nat} (h : Sm B g F s a w [d] [v] Fx) (hb : b ∈ Fx) (hc : w.heap[b]? = some (.cells c t f)) (hx : g.rv (w.freeze ⟨b, c.size, none⟩ 1) [d] [v] Fx) :
    Sm B g F s a (w.freeze ⟨b,c.size,none⟩ 1) [d] [v] Fx:=by
 have hh:∀ x,x ≠ b → (w.freeze ⟨b,c.size,none⟩ 1).heap[x]? = w.heap[x]? := by
  intro x hx
  simp [World.freeze,Array.getElem?_modify,hx,show ¬ b=x from fun e=>hx e.symm]
 have hcell:∀ x j,(w.freeze ⟨b,c.size,none⟩ 1).cell? ⟨x,j,none⟩=w.cell? ⟨x,j,none⟩:=by
  intro x j
  by_cases e:x=b
  ·subst e
   unfold World.cell?
   dsimp only
   rw [freeze_block hc,hc]
  ·exact World.cell?_of_block (hh x e)
 refine h.setx ⟨fun x hxn=>hh x (by rintro rfl; exact hxn hb),by simp [World.freeze],fun _ _ _ e=>e,fun _ _ _=>rfl,fun x j u e=>by rw [hcell]; exact h.imok x j u e,rfl,rfl,rfl,rfl,rfl,rfl⟩ hx h.dj.ndx (fun _ e=>e)
theorem mark_sim {P : Program} {B g F s a w sz x xs v Fx} (h : Sm B g F s a w [.l .x sz (x :: xs)] [v] Fx) :
    ∃ b o len cap w',v=.slice (some ⟨b,o,none⟩) len cap ∧ (markStringish ⟨b,o,none⟩).run P w=.ok () w' ∧ Sm B g F s a w' [.l .x sz (x :: xs)] [v] Fx:=by
 obtain ⟨b,o,cap,us,G,rfl,eF,hcap,hs,hu,h1,hr,hi,hc⟩:=x_inv h.ex (by simp)
 obtain ⟨c,t,f,hb1,hb2,hb3,hb4⟩:=hr
 refine ⟨b,o,_,cap,w.freeze ⟨b,c.size,none⟩ 1,rfl,run_mark hb1,?_⟩
 have hnd:=h.dj.ndx
 rw [eF] at hnd
 have hbG:b ∉ G:=(List.nodup_cons.1 hnd).1
 refine h.marked (by rw [eF]; simp) hb1 ?_
 have hh:∀ x,x ≠ b → (w.freeze ⟨b,c.size,none⟩ 1).heap[x]? = w.heap[x]? := by
  intro x hx
  simp [World.freeze,Array.getElem?_modify,hx,show ¬ b=x from fun e=>hx e.symm]
 have hbl:=freeze_block (n:=c.size) hb1
 have hcell:∀ j,(w.freeze ⟨b,c.size,none⟩ 1).cell? ⟨b,j,none⟩=w.cell? ⟨b,j,none⟩:=by
  intro j
  unfold World.cell?
  dsimp only
  rw [hbl,hb1]
 have hfz:∀ j,j < c.size → ¬ (f.1 ≤ j ∧ j < f.2):=by
  intro j hj
  have:=hb3 j hj
  unfold World.frozen? at this
  dsimp only at this
  rw [hb1] at this
  obtain ⟨lo,hi⟩:=f
  simpa using this
 have hroom:Room (w.freeze ⟨b,c.size,none⟩ 1) b (o + cap * sz):=by
  refine ⟨c,t,_,hbl,hb2,fun j hj=>?_,?_⟩
  ·unfold World.frozen?
   dsimp only
   rw [hbl]
   have h0:=hfz j hj
   by_cases e:f.1=f.2
   ·simp [e]; omega
   ·have e':(f.1 == f.2)=false:=by simpa using e
    have h2:c.size ≤ f.1:=by
     rcases Nat.lt_or_ge f.1 c.size with h | h
     ·exact absurd ⟨Nat.le_refl _,by omega⟩ (hfz f.1 h)
     ·exact h
    simp only [e',Bool.false_eq_true,if_false]
    simp; omega
  ·by_cases e:f.1=f.2
   ·simp [e]
   ·have e':(f.1 == f.2)=false:=by simpa using e
    simp only [e',Bool.false_eq_true,if_false]
    omega
 have:=RVs.lx (im:=g.im) (gl:=g.gl) (w:=w.freeze ⟨b,c.size,none⟩ 1) sz (x :: xs) b o cap us hcap hs (fun j v hj=>by rw [hcell]; exact hu j v hj) h1 hroom hi
  (hc.frame (fun _ _ _ e=>e) (fun _ _ e=>e) (fun y hy=>⟨fun _=>rfl,hh y (by rintro rfl; exact hbG hy)⟩)) .nil
 rw [eF]
 simpa using this
theorem ofBy_len (s:ByteArray):(ofBy s).length=s.size:=by simp [ofBy]
theorem ofBy_rv {im gl w}:∀ (l:List UInt8),RVs im gl w (l.map fun c=>D.i .u8 c.toNat) (l.map fun c=>Value.int .u8 c.toNat) []
 | [] => .nil
 | c :: l=>.i _ _ (ofBy_rv l)
theorem cellsOf_by (l:List UInt8):cellsOf (l.map fun c=>D.i .u8 c.toNat)=l.map fun c=>D.i .u8 c.toNat:=by
 induction l with
 | nil=>rfl
 | cons c l ih=>simp [cellsOf,D.cells] at ih ⊢; exact ih
theorem s2b_sim {P : Program} {B g F s a w x Fx} (e : TypeId) (h : Sm B g F s a w [.s x] [.string x] Fx) :
    ∃ v' w' Fx',(Conv.stringToBytes e x).run P w=.ok v' w' ∧ Sm B g F s a w' [.l .x 1 (ofBy x)] [v'] Fx':=by
 have h0:=h.drew.weaken [] [] [] .nil (by simp) List.nodup_nil
 have hge:=grownCap_ge w x.size 0 e
 let cs:Array Value:=x.data.map (fun b=>Value.int .u8 b.toNat) ++ Array.replicate (grownCap w x.size 0 e - x.size) (.int .u8 0)
 have hsz:cs.size=grownCap w x.size 0 e:=by simp [cs]; show x.size + _=_; omega
 have hrel:g.rv w.drew (cellsOf (ofBy x)) (x.data.toList.map fun c=>Value.int .u8 c.toNat) [] := by
  unfold ofBy; rw [cellsOf_by]; exact ofBy_rv _
 have hlen:(ofBy x).length=x.size:=ofBy_len x
 have hcs:∀ (j:Nat) (v:Value),(x.data.toList.map fun c=>Value.int .u8 (c.toNat:Int))[j]? = some v → cs[j]? = some v:=by
  intro j v hj
  have hjl:j < x.data.size:=by rw [List.getElem?_eq_some_iff] at hj; have:=hj.1; simpa using this
  rw [Array.getElem?_append_left (by simpa using hjl)]
  simpa using hj
 have h1:=h0.newx 1 (ofBy x) (x.data.toList.map fun c=>Value.int .u8 (c.toNat:Int)) cs e (grownCap w x.size 0 e) hrel (by simp [Value.oneCell']) (by intro y hy; simp [ofBy] at hy; obtain ⟨c,_,rfl⟩:=hy; rfl) hcs (by omega) (by omega)
 have hnew:=heap_alloc_new w.drew (.cells cs e)
 rw [hlen] at h1
 refine ⟨_,_,[w.heap.size],run_s2b w e x cs rfl,?_⟩
 refine h1.marked (by simp) hnew ?_
 have hfr:=heap_freeze (n:=cs.size) hnew
 have hcell:∀ j,((w.drew.alloc (.cells cs e)).freeze ⟨w.drew.heap.size,cs.size,none⟩ 1).cell? ⟨w.drew.heap.size,j,none⟩=cs[j]? := fun j=>cell_of_row _ _ _ _ _ _ hfr
 have hfz:∀ j,j < cs.size → ((w.drew.alloc (.cells cs e)).freeze ⟨w.drew.heap.size,cs.size,none⟩ 1).frozen? ⟨w.drew.heap.size,j,none⟩=false:=by
  intro j hj
  unfold World.frozen?
  rw [hfr]
  simp; omega
 have:=RVs.lx (im:=g.im) (gl:=g.gl) (w:=(w.drew.alloc (.cells cs e)).freeze ⟨w.drew.heap.size,cs.size,none⟩ 1) 1 (ofBy x) w.drew.heap.size 0 (grownCap w x.size 0 e) (x.data.toList.map fun c=>Value.int .u8 (c.toNat:Int)) (by omega)
  (by intro y hy; simp [ofBy] at hy; obtain ⟨c,_,rfl⟩:=hy; rfl) (fun j v hj=>by rw [Nat.zero_add,hcell]; exact hcs j v hj) (by simp [Value.oneCell'])
  ⟨cs,e,(cs.size,cs.size + 1),hfr,by omega,hfz,Nat.le_succ _⟩ (fun j=>h0.imlt (Nat.le_refl _) j) (hrel.frame (fun _ _ _ e=>e) (fun _ _ e=>e) (by simp)) .nil
 rw [hlen] at this
 simpa using this
theorem toBy_rv {im gl w} : ∀ {xs : List D} {l : List UInt8} {us G}, toBy xs = some l → RVs im gl w (cellsOf xs) us G →
    ∃ ns:List Int,us=ns.map (Value.int .u8) ∧ ∀ s:ByteArray,ns.foldl (fun r n=>r.push (UInt8.ofNat n.toNat)) s=⟨s.data ++ l.toArray⟩
 | [],l,us,G,h,hr=>by
  simp only [toBy] at h; cases h
  simp only [cellsOf,List.flatMap_nil] at hr
  cases hr
  exact ⟨[],rfl,fun s=>by simp⟩
 | d :: xs,l,us,G,h,hr=>by
  cases d <;> try (simp only [toBy] at h; cases h; done)
  rename_i k n
  cases k <;> try (simp only [toBy] at h; cases h; done)
  simp only [toBy,Option.map_eq_some_iff] at h
  obtain ⟨l',h1,rfl⟩:=h
  simp only [cellsOf,List.flatMap_cons,D.cells,List.cons_append,List.nil_append] at hr
  cases hr with
  | i _ _ hr =>
   obtain ⟨ns,rfl,h2⟩:=toBy_rv h1 (by simpa [cellsOf] using hr)
   refine ⟨n :: ns,rfl,fun s=>?_⟩
   simp only [List.foldl_cons,h2]
   simp [ByteArray.push]
def chkCv2 (P:Program) (t u:TypeId):Cv → Bool
 | .bytes=>(match P.underlying t,P.underlying u with
  | some .string,some (.slice e)=>(match P.underlying e with | some (.int .u8)=>true | _=>false)
  | _,_=>false)
 | .str=>(match P.underlying t,P.underlying u with
  | some (.slice e),some .string=>(match P.underlying e with | some (.int .u8)=>true | _=>false)
  | _,_=>false)
 | .mark=>t == u && (match P.underlying u with
  | some (.slice e)=>(match P.underlying e with | some (.int .u8)=>true | _=>false)
  | _=>false)
 | _=>false
theorem o_cv2 {P B g F s a w Q o c t u x x' dst r s' ac OO meth} (h : Sm B g F s a w [] [] []) (hd : ∀ k, o.dst = some k → k < B.nt) (hop : o.op = .convert t u x')
    (hx:chkX x x'=true) (hc:chkCv2 P t u c=true) (he:evO OO meth (.cv c x) s dst=some (r,s',ac)):Done P B o a w Q s' r:=by
 simp only [evO] at he
 split at he
 ·rename_i d s1 h1
  simp only [Option.map_eq_some_iff] at he
  obtain ⟨q,h3,h4⟩:=he
  cases h4
  obtain ⟨F1,Fy,k⟩:=rx1_sim h hx h1
  cases c <;> simp only [chkCv2] at hc <;> try (cases hc; done)
  ·split at hc
   ·rename_i e hu1 hu2
    split at hc
    ·rename_i hu3
     cases d <;> try (simp only [cvv] at h3; cases h3; done)
     rename_i v
     simp only [cvv] at h3; cases h3
     have ev:=str_inv k.ex
     rw [ev] at k
     obtain ⟨v',w',Fx',hrun,k2⟩:=s2b_sim (P:=P) e k
     exact done_v hd (by simp [execOp,hop,convert,underlying,hu1,hu2,hu3,ev,hrun]) k2
    ·cases hc
   ·cases hc
  ·split at hc
   ·rename_i e hu1 hu2
    split at hc
    ·rename_i hu3
     cases d <;> try (simp only [cvv] at h3; cases h3; done)
     rename_i kk sz xs
     have hsz:sz=1 ∧ ∃ l,toBy xs=some l ∧ q=.s ⟨l.toArray⟩:=by
      match sz,h3 with
      | 1,h3=>simp only [cvv,Option.map_eq_some_iff] at h3; obtain ⟨l,e1,e2⟩:=h3; exact ⟨rfl,l,e1,e2.symm⟩
      | 0,h3=>simp [cvv] at h3
      | n + 2,h3=>simp [cvv] at h3
     obtain ⟨rfl,l,hl,rfl⟩:=hsz
     rcases l_inv k.ex with ⟨rfl,ev,_⟩ | ⟨rfl,_,_,x0,cap,_,ev⟩ | ⟨b,o1,cap,us,G,ev,hcap,hs,h1c,hcc,hk⟩
     ·simp only [toBy] at hl; cases hl
      exact done_v (w':=w) hd (v:=.string .empty) (by simp [execOp,hop,convert,underlying,hu1,hu2,hu3,ev,Conv.bytesToString]) (k.drop (.s _ .nil))
     ·simp only [toBy] at hl; cases hl
      have hld:=run_loadCells_list (P:=P) w x0 [] (by simp)
      have hrun:=run_bytesToString (P:=P) w x0 0 cap [] (by simpa using hld)
      exact done_v (w':=w) hd (v:=.string .empty) (by simp only [execOp,hop,ev,Sem.run_bind,run_convert_bytes_string w t u e _ _ _ hu1 hu3 hu2,hrun,Result.andThen_ok,Sem.run_pure]; rfl) (k.drop (.s _ .nil))
     ·obtain ⟨ns,rfl,hns⟩:=toBy_rv hl hcc
      have hcell:∀ (j:Nat) (u:Value),(ns.map (Value.int .u8))[j]? = some u → w.cell? ⟨b,o1 + j,none⟩=some u:=by
       rcases hk with ⟨_,_,_,_,hu⟩ | ⟨_,_,_,_,_,hu⟩ | ⟨_,_,_,_,hu⟩
       ·exact fun j u e=>k.imok _ _ _ (hu j u e)
       ·exact fun j u e=>k.imok _ _ _ (hu j u e)
       ·exact hu
      have hlen:xs.length=(ns.map (Value.int .u8)).length:=by rw [← hcc.length,cellsOf_length hs,Nat.mul_one]
      have hld:=run_loadCells_list (P:=P) w ⟨b,o1,none⟩ (ns.map (Value.int .u8)) (fun j v hj=>by rw [add_addr]; exact hcell j v hj)
      rw [← hlen] at hld
      have hrun:=run_bytesToString (P:=P) w ⟨b,o1,none⟩ xs.length cap ns hld
      have hfold:=hns ByteArray.empty
      rw [hfold] at hrun
      have hemp:(⟨ByteArray.empty.data ++ l.toArray⟩:ByteArray)=⟨l.toArray⟩:=by simp [ByteArray.empty,ByteArray.emptyWithCapacity]; rfl
      rw [hemp] at hrun
      exact done_v (w':=w) hd (v:=.string ⟨l.toArray⟩) (by simp only [execOp,hop,ev,Sem.run_bind,run_convert_bytes_string w t u e _ _ _ hu1 hu3 hu2,hrun,Result.andThen_ok,Sem.run_pure]) (k.drop (.s _ .nil))
    ·cases hc
   ·cases hc
  ·simp only [Bool.and_eq_true,beq_iff_eq] at hc
   obtain ⟨rfl,hc⟩:=hc
   split at hc
   ·rename_i e hu1
    split at hc
    ·rename_i hu3
     have hq:∃ y ys,d=.l .x 1 (y :: ys) ∧ q=.l .x 1 (y :: ys):=by
      cases d <;> try (simp [cvv] at h3; done)
      rename_i kk sz xs
      match kk,sz,xs,h3 with
      | .x,1,y :: ys,h3=>simp only [cvv] at h3; cases h3; exact ⟨y,ys,rfl,rfl⟩
      | .x,0,_,h3=>simp [cvv] at h3
      | .x,n + 2,_,h3=>simp [cvv] at h3
      | .x,1,[],h3=>simp [cvv] at h3
      | .z,_,_,h3=>simp [cvv] at h3
      | .n,_,_,h3=>simp [cvv] at h3
      | .o,_,_,h3=>simp [cvv] at h3
     obtain ⟨y,ys,rfl,rfl⟩:=hq
     obtain ⟨b,o1,len,cap,w',ev,hrun,k2⟩:=mark_sim (P:=P) k
     refine done_v (v:=a.eval x') hd ?_ k2
     simp [execOp,hop,convert,underlying,hu1,hu3,ev,hrun]
    ·cases hc
   ·cases hc
 ·cases he
theorem o_apps {P B g F s a w Q o t t2 x y x' y' dst r s' ac OO meth} (h : Sm B g F s a w [] [] []) (hd : ∀ k, o.dst = some k → k < B.nt) (hop : o.op = .call { callee := .builtin .append, args := #[x', y'], argTypes := #[t, t2] })
    (hx:chkX x x'=true) (hy:chkX y y'=true) (hc:chkApp P t t2 true 1 1=true) (he:evO OO meth (.apps x y) s dst=some (r,s',ac)):Done P B o a w Q s' r:=by
 simp only [evO] at he
 split at he
 ·rename_i d s1 h1
  split at he
  ·rename_i v s2 h2
   simp only [Option.map_eq_some_iff] at he
   obtain ⟨q,h4,h5⟩:=he
   cases h5
   obtain ⟨F2,Fy,k2⟩:=rx2_sim h hx hy h1 h2
   obtain ⟨A,C,eF,hA,hC⟩:=k2.two
   have ev:=str_inv hC
   have hnd:=k2.dj.ndx
   rw [eF] at hnd
   cases d <;> try (simp only [appv] at h4; cases h4; done)
   rename_i kk sz2 xs
   have hsz2:sz2=1:=by simp only [appv] at h4; split at h4; rename_i hh; exact hh.1; cases h4
   subst hsz2
   have hby:RVs g.im g.gl w (cellsOf (ofBy v)) (v.data.toList.map fun c=>Value.int .u8 (c.toNat:Int)) [] := by
    unfold ofBy; rw [cellsOf_by]; exact ofBy_rv _
   have k3:=k2.weaken (.l kk 1 xs :: cellsOf (ofBy v)) (a.eval x' :: v.data.toList.map fun c=>Value.int .u8 (c.toNat:Int)) (A ++ []) (hA.append hby) (fun b hb=>by rw [eF]; simp at hb; simp [hb]) (by simpa using (List.nodup_append.1 hnd).1)
   obtain ⟨g',v',w',Fz,hrun,k4⟩:=app_core (ty:=o.type) (x:=a.eval y') k3 (by intro y hy; simp [ofBy] at hy; obtain ⟨c,_,rfl⟩:=hy; rfl) (by simp [Value.oneCell']) (by simp [ofBy]) hc
    (fun w0=>by simp [ev,Builtin.lenOf,ofBy_len])
    (fun w0 _=>by
     rw [ev,ofBy_len]
     simp [Builtin.firstCells]
     apply Array.ext'; simp) h4
   exact done_v hd (by simp [execOp,hop,resolve,invoke,builtin,hrun]) k4
  ·cases he
 ·cases he
end Go.AM

namespace Go.AM
def chkCpy (P:Program) (t t2:TypeId) (sz:Nat):Bool:=match P.underlying t,P.underlying t2 with
 | some (.slice e),some (.slice _)=>szT P e == some sz
 | _,_=>false
theorem o_cpy {P B g F s a w Q o t t2 sz x y x' y' dst r s' ac OO meth} (h : Sm B g F s a w [] [] []) (hd : ∀ k, o.dst = some k → k < B.nt) (hop : o.op = .call { callee := .builtin .copy, args := #[x', y'], argTypes := #[t, t2] })
    (hx:chkX x x'=true) (hy:chkX y y'=true) (hc:chkCpy P t t2 sz=true) (he:evO OO meth (.cpy sz x y) s dst=some (r,s',ac)):Done P B o a w Q s' r:=by
 simp only [evO] at he
 split at he
 ·rename_i r1 s1 h1
  split at he
  ·rename_i kk sz' ys s2 h2
   split at he
   ·rename_i pl ac2 h3
    split at he
    ·rename_i sz'' xs hat
     split at he
     ·rename_i hsz
      obtain ⟨rfl,rfl⟩:=hsz
      cases he
      rcases rx_sim h hx h1 with ⟨d,F1,Fy,e,_⟩ | ⟨q,F1,e,k1,hq⟩
      ·subst e; simp [hpl] at h3
      subst e
      obtain ⟨F2,us,Fx,k2,hys,hus,hlu,hyv⟩:=elems_sim k1 hy (rxv_some h2) (rfl:elems s2 (.v (.l kk sz'' ys))=some (sz'',ys))
      have k2:Sm B g F2 s2 a w (cellsOf ys) us Fx:=by simpa using k2
      have hv:=hpl_hdr h3 (hq.of_at (rxv_at h2))
      obtain ⟨M,hM,hMs,hMn,hput⟩:=k2.place hat hv
      obtain ⟨e1,hu1,hs1⟩:∃ e,P.underlying t=some (.slice e) ∧ szT P e=some sz'':=by
       unfold chkCpy at hc
       split at hc
       ·rename_i e _ hu _; exact ⟨e,hu,by simpa using hc⟩
       ·cases hc
      have hlen:∀ w0:World,(Builtin.lenOf (a.eval y')).run P w0=.ok ys.length w0:=by
       intro w0
       rcases hyv with ⟨rfl,ev⟩ | ⟨rfl,x0,cap,ev⟩ | ⟨b,o1,cap,ev,_⟩
       ·simp [ev,Builtin.lenOf]
       ·simp [ev,Builtin.lenOf]
       ·simp [ev,Builtin.lenOf]
      have hfirst:∀ n,n ≤ ys.length → (Builtin.firstCells sz'' n (a.eval y')).run P w=.ok (us.take (n * sz'')).toArray w:=by
       intro n hn
       have hle:n * sz'' ≤ ys.length * sz'':=Nat.mul_le_mul_right _ hn
       rcases hyv with ⟨rfl,ev⟩ | ⟨rfl,x0,cap,ev⟩ | ⟨b,o1,cap,ev,hcell⟩
       ·have:us=[] := by simpa using hlu
        subst this
        simp [ev,Builtin.firstCells]
       ·have:us=[] := by simpa using hlu
        subst this
        have hn0:n=0:=by simpa using hn
        subst hn0
        rw [ev]
        simpa using run_firstCells_some (P:=P) w sz'' 0 x0 0 cap [] (by simp) (by simp)
       ·rw [ev]
        exact run_firstCells_some (P:=P) w sz'' n ⟨b,o1,none⟩ ys.length cap (us.take (n * sz'')) (by simp; omega) (fun j u hj=>by
         rw [add_addr]
         rw [List.getElem?_take] at hj
         split at hj
         ·exact hcell j u hj
         ·cases hj)
      have hlo:s2.loAt (.l .z sz'' ys) pl ≤ s2.lo:=by
       unfold St.loAt; split
       ·split
        ·exact Nat.le_refl _
        ·exact Nat.min_le_left _ _
       ·exact Nat.le_refl _
      have hnl:∀ (r:Nat) (off:Nat),pl=.gb r off → r < s2.loAt (.l .z sz'' ys) pl → ∀ m,D.nrs m xs=true → D.nrs m (ys.take xs.length ++ xs.drop ys.length)=true:=by
       intro r off e hl m hm
       subst e
       simp only [St.loAt] at hl
       split at hl
       ·rename_i h0
        have h0':D.nrs m ys=true:=nrs_mono (Nat.zero_le _) ys (by simpa [D.nr] using h0)
        have e1:D.nrs m (ys.take xs.length ++ ys.drop xs.length)=true:=by rw [List.take_append_drop]; exact h0'
        have e2:D.nrs m (xs.take ys.length ++ xs.drop ys.length)=true:=by rw [List.take_append_drop]; exact hm
        rw [nrs_append,Bool.and_eq_true] at e1 e2
        rw [nrs_append,e1.1,e2.2]; rfl
       ·omega
      rcases l_inv hM with ⟨rfl,ev,rfl⟩ | ⟨_,hkz,_⟩ | ⟨b,o1,cap,us0,GG,ev,hcap,hsz,h1',hcells,hrest⟩
      ·obtain ⟨F3,k3⟩:=hput g w (ys.take 0 ++ [].drop ys.length) [] [] [] [] (s2.loAt (.l .z sz'' ys) pl) (Chg.refl k2 _) (by simp) (by simp only [ev]; simp; exact RVs.lnil (im:=g.im) (gl:=g.gl) (w:=w) .x sz'' .nil) .nil ⟨Fx,by simp⟩ hlo (by simp)
       have hf:=hfirst 0 (Nat.zero_le _)
       refine done_v (w':=w) hd (v:=.int .i64 (min (ys.length:Int) 0)) ?_ (k3.drop (.i .i64 (min (ys.length:Int) 0) .nil))
       simp [execOp,hop,resolve,invoke,builtin,Builtin.copy_,underlying,hu1,ev,hlen,run_sizeOf hs1,hf,goInt]
       omega
      ·rcases hkz with hk | hk <;> cases hk
      ·have hG:M=b :: GG ∧ Room w b (o1 + cap * sz'') ∧ (∀ j,g.im b j=none) ∧ ∀ (j:Nat) (u:Value),us0[j]? = some u → w.cell? ⟨b,o1 + j,none⟩=some u:=by
        rcases hrest with ⟨hk,_⟩ | ⟨hk,_⟩ | ⟨_,e1,e2,e3,e4⟩
        ·rcases hk with hk | hk <;> cases hk
        ·cases hk
        ·exact ⟨e1,e2,e3,e4⟩
       obtain ⟨rfl,hroom,him,hu⟩:=hG
       obtain ⟨n,hn⟩:∃ n,n=min ys.length xs.length:=⟨_,rfl⟩
       have hf:=hfirst n (by omega)
       obtain ⟨vs,hvs⟩:∃ vs,vs=us.take (n * sz''):=⟨_,rfl⟩
       rw [← hvs] at hf
       have hny:n * sz'' ≤ ys.length * sz'':=Nat.mul_le_mul_right _ (by omega)
       have hnx:n * sz'' ≤ xs.length * sz'':=Nat.mul_le_mul_right _ (by omega)
       have hxc:xs.length * sz'' ≤ cap * sz'':=Nat.mul_le_mul_right _ hcap
       have hvl:vs.length=n * sz'':=by rw [hvs]; simp; omega
       have hv1:∀ u ∈ vs,u.oneCell'=true:=fun u h=>hus u (List.mem_of_mem_take (by rw [hvs] at h; exact h))
       have hcy:cellsOf ys=cellsOf (ys.take n) ++ cellsOf (ys.drop n):=by rw [← cellsOf_append,List.take_append_drop]
       have hys1:∀ x ∈ ys.take n,x.cells.length=sz'':=fun x h=>hys x (List.mem_of_mem_take h)
       have hcl1:(cellsOf (ys.take n)).length=n * sz'':=by rw [cellsOf_length hys1,List.length_take,Nat.min_eq_left (by omega)]
       have hex:=k2.ex
       rw [hcy] at hex
       obtain ⟨u1,u2,H,H2,e1,e2,l1,r1,r2⟩:=RVs.append_inv _ hex
       have hu1e:u1=vs:=by rw [hvs,e1,← hcl1,← l1]; simp
       subst hu1e
       have hcl:=cellsOf_length hsz
       have hul:=hcells.length
       obtain ⟨A,M2,C,rfl,kk2⟩:=hcells.ovr r1 (off:=0) (by rw [hcl1]; omega)
       obtain ⟨cc,ct,cf,hb1,hb2,hb3,hb4⟩:=hroom
       have hfit:o1 + u1.length ≤ cc.size:=by omega
       obtain ⟨q1,q2,q3,q4,q5,q6⟩:=heap_setCells b u1 o1 w cc ct cf hb1 hfit
       have hall:((b :: (A ++ (M2 ++ C))) ++ (H ++ H2)).Nodup:=by
        rw [List.nodup_append]
        exact ⟨hMn,e2 ▸ k2.dj.ndx,fun x hx y hy e=>k2.dj.dix _ x (hMs x hx) (by rw [e2]; exact e ▸ hy)⟩
       have hp:List.Perm ((b :: (A ++ (M2 ++ C))) ++ (H ++ H2)) (((b :: (A ++ H ++ C)) ++ []) ++ (M2 ++ H2)):=by
        have:=(perm_into b A M2 C H).append_right H2
        simpa [List.append_assoc] using this
       have hnd:(b :: (A ++ H ++ C)).Nodup:=by
        have:=hp.nodup_iff.1 hall
        simp only [List.append_nil] at this
        exact (List.nodup_append.1 this).1
       have hw:∀ x,x ≠ b → (w.setCells b o1 u1).heap[x]? = w.heap[x]? := q2
       have hch:Chg B g g w (w.setCells b o1 u1) ((b :: (A ++ (M2 ++ C))) ++ Fx) :=
        ⟨fun x hx=>hw x (by rintro rfl; exact hx (by simp)),q3,fun _ _ _ e=>e,fun _ _ _=>rfl,fun c j u e=>by
         have hcb:c ≠ b:=by rintro rfl; rw [him] at e; cases e
         exact (World.cell?_of_block (w:=w) (a:=⟨c,j,none⟩) (hw c hcb)).trans (k2.imok _ _ _ e),rfl,rfl,rfl,q4,q5,q6⟩
       have hkk:=kk2.frame (im':=g.im) (gl':=g.gl) (w':=w.setCells b o1 u1) (fun _ _ _ e=>e) (fun _ _ e=>e) (fun x hx=>⟨fun _=>rfl,hw x (by
        rintro rfl
        exact (List.nodup_cons.1 hnd).1 hx)⟩)
       have hxd:xs.drop ys.length=xs.drop n:=by
        rcases Nat.le_total ys.length xs.length with h | h
        ·rw [hn,Nat.min_eq_left h]
        ·rw [hn,Nat.min_eq_right h,List.drop_of_length_le h,List.drop_length]
       have hyt:ys.take xs.length=ys.take n:=by
        rcases Nat.le_total ys.length xs.length with h | h
        ·rw [hn,Nat.min_eq_left h,List.take_length,List.take_of_length_le h]
        ·rw [hn,Nat.min_eq_right h]
       have hcn:cellsOf (ys.take xs.length ++ xs.drop ys.length)=ovr (cellsOf xs) 0 (cellsOf (ys.take n)):=by
        rw [hxd,hyt,cellsOf_append]
        unfold ovr
        simp only [List.take_zero,List.nil_append,Nat.zero_add]
        congr 1
        have e3:cellsOf xs=cellsOf (xs.take n) ++ cellsOf (xs.drop n):=by rw [← cellsOf_append,List.take_append_drop]
        have e4:(cellsOf (xs.take n)).length=n * sz'':=by rw [cellsOf_length (fun x h=>hsz x (List.mem_of_mem_take h)),List.length_take,Nat.min_eq_left (by omega)]
        rw [e3,hcl1,← e4,List.drop_left]
       have hlen2:(ys.take xs.length ++ xs.drop ys.length).length=xs.length:=by simp; omega
       have hx':g.rv (w.setCells b o1 u1) [.l .x sz'' (ys.take xs.length ++ xs.drop ys.length)] [a.eval x'] (b :: (A ++ H ++ C)):=by
        have:=RVs.lx (im:=g.im) (gl:=g.gl) (w:=w.setCells b o1 u1) sz'' (ys.take xs.length ++ xs.drop ys.length) b o1 cap (u1 ++ us0.drop u1.length) (by omega)
         (by
          intro x hx
          rcases List.mem_append.1 hx with hx | hx
          ·exact hys x (List.mem_of_mem_take hx)
          ·exact hsz x (List.mem_of_mem_drop hx))
         (by
          intro j u hj
          rw [cell_of_row _ _ _ _ _ _ q1]
          simp only [List.getElem?_toArray]
          by_cases h1:j < u1.length
          ·rw [List.getElem?_append_left h1] at hj
           rw [List.append_assoc,List.getElem?_append_right (by simp; omega),List.getElem?_append_left (by simp; omega)]
           rw [← hj]; congr 1; simp; omega
          ·rw [List.getElem?_append_right (by omega),List.getElem?_drop] at hj
           rw [List.getElem?_append_right (by simp; omega),List.getElem?_drop]
           have:=hu _ u hj
           rw [cell_of_row _ _ _ _ _ _ hb1] at this
           rw [← this]
           simp only [Array.getElem?_toList]
           congr 1
           simp; omega)
         (by
          intro u hu'
          rcases List.mem_append.1 hu' with hu' | hu'
          ·exact hv1 u hu'
          ·exact h1' u (List.mem_of_mem_drop hu'))
         ⟨_,ct,cf,q1,by simp at hfit ⊢; omega,fun j hj=>(by
          have hj':j < cc.size:=by simp at hj hfit; omega
          rw [World.frozen?_setCells]; exact hb3 j hj'),hb4⟩ him (by rw [hcn,show u1 ++ us0.drop u1.length=us0.take 0 ++ u1 ++ us0.drop (0 + (cellsOf (ys.take n)).length) by simp [l1]]; exact hkk) .nil
        rw [ev]
        rw [hlen2] at this
        simpa using this
       obtain ⟨F3,k3⟩:=hput g _ (ys.take xs.length ++ xs.drop ys.length) (b :: (A ++ H ++ C)) [] [] [] (s2.loAt (.l .z sz'' ys) pl) hch hlen2 hx' .nil ⟨M2 ++ H2,by rw [e2]; exact hp⟩ hlo hnl
       refine done_v hd (v:=.int .i64 (min (ys.length:Int) xs.length)) ?_ (k3.drop (.i _ _ .nil))
       have hc5:∀ j,j < u1.length → (w.cell? ⟨b,o1 + 0 + j,none⟩).isSome=true:=by
        intro j hj
        rw [cell_of_row _ _ _ _ _ _ hb1]
        simp; omega
       have hst:=run_storeCells_cells (P:=P) b o1 u1 0 w hc5 (fun j hj=>hb3 _ (by omega)) hv1
       simp only [Nat.add_zero] at hst
       have hmin:Nat.min ys.length xs.length=n:=hn.symm
       simp [execOp,hop,resolve,invoke,builtin,Builtin.copy_,underlying,hu1,ev,hlen,run_sizeOf hs1,hmin,hf,hst,goInt]
       omega
     ·cases he
    ·cases he
   ·cases he
  ·cases he
 ·cases he
end Go.AM

namespace Go.AM
theorem rows_of {im : Nat → Nat → Option Value} {gl : Nat → Option (Nat × Bool)} {w : World} {sz : Nat} : ∀ {xs : List D} {us : List Value} {G : List Nat}, RVs im gl w (cellsOf xs) us G → (∀ x ∈ xs, x.cells.length = sz) →
    ∃ zs:List (D × List Value × List Nat),zs.map (·.1)=xs ∧ us=(zs.map (·.2.1)).flatten ∧ G=(zs.map (·.2.2)).flatten ∧ ∀ z ∈ zs,z.2.1.length=sz ∧ RVs im gl w z.1.cells z.2.1 z.2.2
 | [],us,G,h,hs=>by cases h; exact ⟨[],rfl,rfl,rfl,by simp⟩
 | x :: xs,us,G,h,hs=>by
  have h':RVs im gl w (x.cells ++ cellsOf xs) us G:=by simpa [cellsOf] using h
  obtain ⟨u1,u2,A,B,rfl,rfl,hl,h1,h2⟩:=RVs.append_inv _ h'
  obtain ⟨zs,rfl,rfl,rfl,hz⟩:=rows_of h2 (fun y hy=>hs y (by simp [hy]))
  refine ⟨(x,u1,A) :: zs,rfl,by simp,by simp,?_⟩
  intro z hz'
  rcases List.mem_cons.1 hz' with rfl | hz'
  ·exact ⟨hl.trans (hs _ (by simp)),h1⟩
  ·exact hz z hz'
theorem rows_to {im : Nat → Nat → Option Value} {gl : Nat → Option (Nat × Bool)} {w : World} : ∀ (zs : List (D × List Value × List Nat)), (∀ z ∈ zs, RVs im gl w z.1.cells z.2.1 z.2.2) →
    RVs im gl w (cellsOf (zs.map (·.1))) (zs.map (·.2.1)).flatten (zs.map (·.2.2)).flatten
 | [],_=>.nil
 | z :: zs,h=>by
  have:=(h z (by simp)).append (rows_to zs (fun y hy=>h y (by simp [hy])))
  simpa [cellsOf] using this
theorem nrs_all (n:Nat):∀ l:List D,D.nrs n l=l.all (D.nr n)
 | [] => rfl
 | d :: l=>by simp [D.nrs,nrs_all n l]
theorem o_srt {P B g F s a w Q o f gf x x' ats dst r s' ac OO meth} (h : Sm B g F s a w [] [] []) (hd : ∀ k, o.dst = some k → k < B.nt) (hO : CallOK P OO) (hop : o.op = .call { callee := .value (.func f), args := #[x', .func gf], argTypes := ats })
    (hx:chkX x x'=true) (he:evO OO meth (.srt f gf x) s dst=some (r,s',ac)):Done P B o a w Q s' r:=by
 simp only [evO] at he
 split at he
 ·rename_i r1 s1 h1
  split at he
  ·rename_i pl ac2 h3
   split at he
   ·rename_i sz xs hat
    split at he
    ·rename_i ys hy
     split at he
     ·rename_i hlen
      cases he
      rcases rx_sim h hx h1 with ⟨d,F1,Fy,e,_⟩ | ⟨q,F1,e,k1,hq⟩
      ·subst e; simp [hpl] at h3
      subst e
      have hv:=hpl_hdr h3 hq
      obtain ⟨M,hM,hMs,hMn,hput⟩:=k1.place hat hv
      obtain ⟨hen,hnil,hcn,hcc⟩:=hO.2.2 f gf sz xs ys hy
      have hrun:(execOp a.eval o).run P w=(callFunc f #[a.eval x',.func (.func gf) #[] #[]]).run P w:=by
       simp [execOp,hop,resolve,Deferred.ofValue,invoke,Act.eval]
      have hlo:s1.loAt (.l .z sz ys) pl ≤ s1.lo:=by
       unfold St.loAt; split
       ·split
        ·exact Nat.le_refl _
        ·exact Nat.min_le_left _ _
       ·exact Nat.le_refl _
      intro K hK
      unfold Oper.wp
      rw [hrun,hen]
      have ht:∀ w':World,g.rv w' [.t []] [.tuple #[]] [] := fun w'=>RVs.t [] [] .nil .nil
      by_cases h0:xs=[]
      ·obtain ⟨p,cap,ev⟩:∃ p cap,a.eval x'=.slice p 0 cap:=by
        rcases l_inv hM with ⟨_,ev,_⟩ | ⟨_,hkz,_⟩ | ⟨b,o1,cap,_,_,ev,_⟩
        ·exact ⟨_,_,ev⟩
        ·rcases hkz with hk | hk <;> cases hk
        ·subst h0; exact ⟨_,_,ev⟩
       have hy0:=hnil h0
       subst h0 hy0
       rw [ev]
       refine (hcn rfl p cap w).mono ?_
       rintro e w' ⟨rfl,hw⟩
       obtain rfl:w=w':=hw.symm
       obtain ⟨F3,k3⟩:=hput g w [] M [] [] [] (s1.loAt (.l .z sz []) pl) (Chg.refl k1 _) rfl hM .nil ⟨[],by simp⟩ hlo (by simp)
       exact hK _ _ ((k3.drop (ht _)).put o.dst hd)
      ·rcases l_inv hM with ⟨h0',_⟩ | ⟨h0',_⟩ | ⟨b,o1,cap,us,G,ev,hcap,hsz,h1',hcells,hrest⟩
       ·exact absurd h0' h0
       ·exact absurd h0' h0
       have hG:M=b :: G ∧ Room w b (o1 + cap * sz) ∧ (∀ j,g.im b j=none) ∧ ∀ (j:Nat) (u:Value),us[j]? = some u → w.cell? ⟨b,o1 + j,none⟩=some u:=by
        rcases hrest with ⟨hk,_⟩ | ⟨hk,_⟩ | ⟨_,e1,e2,e3,e4⟩
        ·rcases hk with hk | hk <;> cases hk
        ·cases hk
        ·exact ⟨e1,e2,e3,e4⟩
       obtain ⟨rfl,hroom,him,hu⟩:=hG
       obtain ⟨zs,hz1,hz2,hz3,hz⟩:=rows_of hcells hsz
       have hcl:=cellsOf_length hsz
       have hul:=hcells.length
       obtain ⟨c,t,f',hb1,hb2,hb3,hb4⟩:=hroom
       have hxc:xs.length * sz ≤ cap * sz:=Nat.mul_le_mul_right _ hcap
       obtain ⟨zs',hp,hz1',hrow⟩:=hcc zs hz1 (by rintro rfl; exact h0 hz1.symm) (fun z hzm=>⟨(hz z hzm).1,fun v hv=>h1' v (by rw [hz2]; exact List.mem_flatten.2 ⟨_,List.mem_map.2 ⟨z,hzm,rfl⟩,hv⟩),g.im,g.gl,w,(hz z hzm).2⟩)
       rw [ev]
       refine (hrow w b o1 cap c t f' hb1 hb3 (by rw [← hz2]; omega) (fun j u hj=>by
        rw [← hz2] at hj
        have:=hu j u hj
        rw [cell_of_row _ _ _ _ _ _ hb1] at this
        exact this)).mono ?_
       rintro e w' ⟨rfl,hw'⟩
       obtain ⟨c2,t2,f2,c',r1,r2,r3,r4⟩:=hw'.row
       rw [hb1] at r1
       cases r1
       have hbl:b < w.heap.size:=by
        rw [Array.getElem?_eq_some_iff] at hb1; exact hb1.1
       obtain ⟨w2,hw2⟩:∃ w2,w2={ w with heap:=w.heap.setIfInBounds b (.cells c' t f') }:=⟨_,rfl⟩
       have hw2b:w2.heap[b]? = some (.cells c' t f'):=by rw [hw2]; simp [hbl]
       have hw2o:∀ x,x ≠ b → w2.heap[x]? = w.heap[x]? := by
        intro x hxb
        rw [hw2]
        simp only [Array.getElem?_setIfInBounds]
        rw [if_neg (fun e=>hxb e.symm)]
       have hpm:List.Perm (zs'.map (·.2.2)).flatten G:=by
        rw [hz3]
        exact (hp.map _).flatten
       have hpu:List.Perm (zs'.map (·.2.1)).flatten us:=by
        rw [hz2]
        exact (hp.map _).flatten
       have hlu:(zs'.map (·.2.1)).flatten.length=xs.length * sz:=by rw [hpu.length_eq]; omega
       have hch:Chg B g g w w2 ((b :: G) ++ []) :=
        ⟨fun x hx=>hw2o x (by rintro rfl; exact hx (by simp)),by rw [hw2]; simp,fun _ _ _ e=>e,fun _ _ _=>rfl,fun c j u e=>by
         have hcb:c ≠ b:=by rintro rfl; rw [him] at e; cases e
         exact (World.cell?_of_block (w:=w) (a:=⟨c,j,none⟩) (hw2o c hcb)).trans (k1.imok _ _ _ e),rfl,rfl,rfl,by rw [hw2],by rw [hw2],by rw [hw2]⟩
       have hcells':RVs g.im g.gl w2 (cellsOf ys) (zs'.map (·.2.1)).flatten (zs'.map (·.2.2)).flatten:=by
        rw [← hz1']
        refine rows_to zs' (fun z hzm=>?_)
        have hzm':=hp.mem_iff.1 hzm
        refine (hz z hzm').2.frame (fun _ _ _ e=>e) (fun _ _ e=>e) (fun x hx=>⟨fun _=>rfl,hw2o x ?_⟩)
        rintro rfl
        refine (List.nodup_cons.1 hMn).1 ?_
        rw [hz3]
        exact List.mem_flatten.2 ⟨_,List.mem_map.2 ⟨z,hzm',rfl⟩,hx⟩
       have hx':g.rv w2 [.l .x sz ys] [a.eval x'] (b :: (zs'.map (·.2.2)).flatten):=by
        have:=RVs.lx (im:=g.im) (gl:=g.gl) (w:=w2) sz ys b o1 cap (zs'.map (·.2.1)).flatten (by omega)
         (by
          intro y hym
          rw [← hz1'] at hym
          obtain ⟨z,hzm,rfl⟩:=List.mem_map.1 hym
          have hzm':=hp.mem_iff.1 hzm
          have:=(hz z hzm').2.length
          rw [this]; exact (hz z hzm').1)
         (by
          intro j u hj
          rw [cell_of_row _ _ _ _ _ _ hw2b]
          show c'[o1 + j]? = some u
          have hjl:j < (zs'.map (·.2.1)).flatten.length:=by
           rw [List.getElem?_eq_some_iff] at hj; exact hj.1
          rw [r4,if_pos ⟨by omega,by omega⟩,show o1 + j - o1=j by omega]; exact hj)
         (fun v hv=>h1' v (hpu.mem_iff.1 hv))
         ⟨c',t,f',hw2b,by omega,fun j hj=>(by
          have h5:=hb3 j (by omega)
          unfold World.frozen? at h5 ⊢
          simp only [hb1,hw2b] at h5 ⊢
          exact h5),hb4⟩ him hcells' .nil
        rw [ev,← hlen]
        simpa using this
       obtain ⟨F3,k3⟩:=hput g w2 ys (b :: (zs'.map (·.2.2)).flatten) [] [] [] (s1.loAt (.l .z sz ys) pl) hch hlen hx' .nil ⟨[],by simpa using hpm.symm⟩ hlo (by
        intro r off e hl m hm
        rw [nrs_all] at hm ⊢
        have hpx:List.Perm ys xs:=by rw [← hz1,← hz1']; exact hp.map _
        rw [List.all_eq_true] at hm ⊢
        exact fun y hy=>hm y (hpx.mem_iff.1 hy))
       have k4:=k3.world (w':=w') (fun x hx=>by
        by_cases e:x=b
        ·subst e; rw [r2,hw2b]
        ·rw [hw2o x e]
         exact hw'.heap x (by rw [hw2] at hx; simpa using hx) e) (by rw [hw2]; simpa using hw'.size) (by rw [hw2]; exact hw'.os) (by rw [hw2]; exact hw'.tape) (by rw [hw2]; exact hw'.out)
       exact hK _ _ ((k4.drop (ht w')).put o.dst hd)
     ·cases he
    ·cases he
   ·cases he
  ·cases he
 ·cases he
end Go.AM

namespace Go.AM
abbrev entV (en:List MapEntry):List Value:=en.flatMap fun e=>[e.key,e.val]
def keyKind (str:Bool) (k:TypeDesc):Prop:=(str=false ∧ ∃ q,k=.int q) ∨ (str=true ∧ k=.string)
theorem mkey_same {im gl w str kind k k' v v' F F' b} (hk : keyKind str kind) (h1 : RVs im gl w [k] [v] F) (h2 : RVs im gl w [k'] [v'] F') (e : mkey str k k' = some b) :
    Instr.sameNow kind v v'=some b ∧ (b=true → Instr.sameBits 10000 v' v=true) ∧ (∃ x y,v=.int x y) ∨ (Instr.sameNow kind v v'=some b ∧ (b=true → Instr.sameBits 10000 v' v=true) ∧ ∃ x,v=.string x):=by
 unfold mkey at e
 split at e
 ·rcases hk with ⟨_,q,rfl⟩ | ⟨h,_⟩
  ·split at e
   ·rename_i hkk
    subst hkk
    cases e
    cases h1 with
    | i _ _ h=>cases h; cases h2 with
     | i _ _ h =>
      cases h
      refine .inl ⟨by simp [Instr.sameNow],fun hb=>?_,_,_,rfl⟩
      simp only [beq_iff_eq] at hb
      subst hb
      simp [Instr.sameBits]
   ·cases e
  ·cases h
 ·rcases hk with ⟨h,_⟩ | ⟨_,rfl⟩
  ·cases h
  ·cases e
   cases h1 with
   | s x h=>cases h; cases h2 with
    | s y h =>
     cases h
     refine .inr ⟨by simp [Instr.sameNow],fun hb=>?_,_,rfl⟩
     have hb2:(_:ByteArray).data == (_:ByteArray).data:=hb
     have hb':=ByteArray.ext (eq_of_beq hb2)
     subst hb'
     simpa [Instr.sameBits] using hb
 ·cases e
theorem mkey_same' {im gl w str kind k k' v v' F F' b} (hk : keyKind str kind) (h1 : RVs im gl w [k] [v] F) (h2 : RVs im gl w [k'] [v'] F') (e : mkey str k k' = some b) :
    Instr.sameNow kind v v'=some b ∧ (b=true → Instr.sameBits 10000 v' v=true):=by
 rcases mkey_same hk h1 h2 e with ⟨a,b,_⟩ | ⟨a,b,_⟩ <;> exact ⟨a,b⟩
theorem ent_inv {im gl w k v r vs F} (h : RVs im gl w (k :: v :: r) vs F) (hF : F = []) (en : List MapEntry) (e : vs = entV en) :
    ∃ x en',en=x :: en' ∧ RVs im gl w [k] [x.key] [] ∧ RVs im gl w [v] [x.val] [] ∧ RVs im gl w r (entV en') [] := by
 obtain ⟨v1,us,A,B,rfl,rfl,h1,h2⟩:=h.cons_inv
 obtain ⟨v2,us2,A2,B2,rfl,rfl,h3,h4⟩:=h2.cons_inv
 obtain ⟨e1,e2⟩:=List.append_eq_nil_iff.1 hF
 obtain ⟨e3,e4⟩:=List.append_eq_nil_iff.1 e2
 subst e1 e3 e4
 cases en with
 | nil=>simp [entV] at e
 | cons x en' =>
  simp [entV] at e
  obtain ⟨rfl,rfl,rfl⟩:=e
  exact ⟨x,en',rfl,h1,h3,h4⟩
theorem find_sim {im gl w str kind k kv Fk} (hk : keyKind str kind) (h1 : RVs im gl w [k] [kv] Fk) : ∀ (en : List MapEntry) (es : List D) (i : Nat) (o : Option D), RVs im gl w es (entV en) [] → mfind str k es = some o →
    (o=none ∧ Instr.findNow kind kv en i=some none) ∨ ∃ d j v,o=some d ∧ Instr.findNow kind kv en i=some (some (j,v)) ∧ RVs im gl w [d] [v] []
 | en,[],i,o,h,e=>by
  cases e
  have:=h.length
  cases en with
  | nil=>exact .inl ⟨rfl,rfl⟩
  | cons x en=>simp [entV] at this
 | en,[_],i,o,h,e=>by cases e
 | en,k' :: v' :: r,i,o,h,e=>by
  obtain ⟨x,en',rfl,a1,a2,a3⟩:=ent_inv h rfl en rfl
  simp only [mfind] at e
  split at e
  ·rename_i hb
   cases e
   obtain ⟨b1,_⟩:=mkey_same' hk h1 a1 hb
   exact .inr ⟨v',i,x.val,rfl,by simp only [Instr.findNow,b1],a2⟩
  ·rename_i hb
   obtain ⟨b1,_⟩:=mkey_same' hk h1 a1 hb
   rcases find_sim hk h1 en' r (i + 1) o a3 e with ⟨c1,c2⟩ | ⟨d,j,v,c1,c2,c3⟩
   ·exact .inl ⟨c1,by simp only [Instr.findNow,b1]; exact c2⟩
   ·exact .inr ⟨d,j,v,c1,by simp only [Instr.findNow,b1]; exact c2,c3⟩
  ·cases e
theorem set_sim {im gl w str kind k kv d dv} (hk : keyKind str kind) (h1 : RVs im gl w [k] [kv] []) (h2 : RVs im gl w [d] [dv] []) : ∀ (en : List MapEntry) (es es' : List D) (i : Nat), RVs im gl w es (entV en) [] → mset str k d es = some es' →
    (Instr.findNow kind kv en i=some none ∧ ∀ b,RVs im gl w es' (entV (en ++ [⟨kv,dv,b⟩])) []) ∨
    ∃ j v x,Instr.findNow kind kv en i=some (some (i + j,v)) ∧ en[j]? = some x ∧ Instr.sameBits 10000 x.key kv=true ∧ RVs im gl w es' (entV (en.modify j fun e=>{ e with key:=kv,val:=dv })) []
 | en,[],es',i,h,e=>by
  simp only [mset] at e
  split at e
  ·cases e
   have:=h.length
   cases en with
   | nil =>
    refine .inl ⟨rfl,fun b=>?_⟩
    have:=h1.append h2
    simpa [entV] using this
   | cons x en=>simp [entV] at this
  ·cases e
 | en,[_],es',i,h,e=>by cases e
 | en,k' :: v' :: r,es',i,h,e=>by
  obtain ⟨x,en',rfl,a1,a2,a3⟩:=ent_inv h rfl en rfl
  simp only [mset] at e
  split at e
  ·rename_i hb
   cases e
   obtain ⟨b1,b2⟩:=mkey_same' hk h1 a1 hb
   refine .inr ⟨0,x.val,x,by simp only [Instr.findNow,b1]; rfl,rfl,b2 rfl,?_⟩
   have:=h1.append (h2.append a3)
   simpa [entV] using this
  ·rename_i hb
   simp only [Option.map_eq_some_iff] at e
   obtain ⟨r',e1,rfl⟩:=e
   obtain ⟨b1,_⟩:=mkey_same' hk h1 a1 hb
   rcases set_sim hk h1 h2 en' r r' (i + 1) a3 e1 with ⟨c1,c2⟩ | ⟨j,v,y,c1,c2,c3,c4⟩
   ·refine .inl ⟨by simp only [Instr.findNow,b1]; exact c1,fun b=>?_⟩
    have:=a1.append (a2.append (c2 b))
    simpa [entV] using this
   ·refine .inr ⟨j + 1,v,y,by simp only [Instr.findNow,b1]; rw [c1]; congr 3; omega,by simpa using c2,c3,?_⟩
    have:=a1.append (a2.append c4)
    simpa [entV] using this
  ·cases e
theorem mkey_i {str:Bool} {k k':D} {b:Bool} (h:mkey str k k'=some b) (m:Nat):D.nr m k=true:=by
 unfold mkey at h
 split at h
 ·rfl
 ·rfl
 ·cases h
theorem mkey_nr {str:Bool} {k d:D} {m:Nat}:∀ {es es':List D},mset str k d es=some es' → D.nr m k=true
 | [],es',h=>by
  simp only [mset] at h
  split at h
  ·rename_i hb; exact mkey_i hb m
  ·cases h
 | [_],es',h=>by cases h
 | k' :: v' :: r,es',h=>by
  simp only [mset] at h
  split at h
  ·rename_i hb; exact mkey_i hb m
  ·rename_i hb; exact mkey_i hb m
  ·cases h
theorem mset_nr {str:Bool} {k d:D} {m:Nat}:∀ {es es':List D},mset str k d es=some es' → D.nrs m es=true → D.nr m k=true → D.nr m d=true → D.nrs m es'=true
 | [],es',h,_,h1,h2=>by
  simp only [mset] at h
  split at h
  ·cases h; simp [D.nrs,h1,h2]
  ·cases h
 | [_],es',h,_,_,_=>by cases h
 | k' :: v' :: r,es',h,hm,h1,h2=>by
  simp only [D.nrs,Bool.and_eq_true] at hm
  simp only [mset] at h
  split at h
  ·cases h; simp [D.nrs,h1,h2,hm.2.2]
  ·simp only [Option.map_eq_some_iff] at h
   obtain ⟨r',e1,rfl⟩:=h
   have:=mset_nr e1 hm.2.2 h1 h2
   simp [D.nrs,hm.1,hm.2.1,this]
  ·cases h
def chkMt (P:Program) (t:TypeId) (str:Bool):Option TypeId:=match P.underlying t with
 | some (.map kt e)=>(match P.underlying kt with
  | some (.int _)=>if str then none else some e
  | some .string=>if str then some e else none
  | _=>none)
 | _=>none
theorem chkMt_inv {P t str e} (h:chkMt P t str=some e):∃ kt kd,P.underlying t=some (.map kt e) ∧ P.underlying kt=some kd ∧ keyKind str kd:=by
 unfold chkMt at h
 split at h
 ·rename_i kt e' hu
  split at h
  ·rename_i q hk
   cases str <;> simp at h
   subst h
   exact ⟨kt,_,hu,hk,.inl ⟨rfl,_,rfl⟩⟩
  ·rename_i hk
   cases str <;> simp at h
   subst h
   exact ⟨kt,_,hu,hk,.inr ⟨rfl,rfl⟩⟩
  ·cases h
 ·cases h
theorem run_checkKey {P:Program} {w:World} {kt:TypeId} {kd:TypeDesc} {str:Bool} (hu:P.underlying kt=some kd) (hk:keyKind str kd) (b:Bool) (v:Value):(Instr.checkKey b 10000 kt v).run P w=.ok () w:=by
 have:∀ n,(Instr.checkKey b (n + 1) kt v).run P w=.ok () w:=by
  intro n
  rcases hk with ⟨_,q,rfl⟩ | ⟨_,rfl⟩ <;> simp [Instr.checkKey,underlying,hu]
 exact this 9999
theorem run_findKey {P:Program} {w:World} {kt:TypeId} {kd:TypeDesc} {k:Value} {es:List MapEntry} {r} (hu:P.underlying kt=some kd) (hf:Instr.findNow kd k es 0=some r):(Instr.findKey kt k es).run P w=.ok r w:=by
 simp [Instr.findKey,underlying,hu,hf]
theorem mo_inv {im gl w r v F} (h:RVs im gl w [.mo r] [v] F):∃ b,v=.map (some b) ∧ F=[] ∧ gl r=some (b,true):=by
 cases h with
 | mo r b hb h=>cases h; exact ⟨b,rfl,rfl,hb⟩
theorem Sm.map {B g F s a w ds vs Fx} (h : Sm B g F s a w ds vs Fx) {r b : Nat} {es : List D} (hs : s.sg[r]? = some (.u :: es)) (hg : g.gl r = some (b, true)) :
    g.gp r=none ∧ ∃ en ck,w.heap[b]? = some (.map en ck) ∧ (∀ j,g.im b j=none) ∧ F (.gb r)=[b] ∧ g.rv w es (entV en.toList) [] := by
 rcases h.gb r _ hs with ⟨b',h1,_⟩ | ⟨_,h2,_⟩ | ⟨b',h1,h2,en,ck,es',k1,k2,k3,k4,k5⟩
 ·have:=h.gpl _ _ h1; rw [hg] at this; cases this
 ·cases h2
 ·rw [hg] at h2; cases h2; cases k4; exact ⟨h1,en,ck,k1,k2,k3,k5⟩
def chkMlk (P:Program) (t:TypeId) (str:Bool) (z:D):Bool:=match chkMt P t str with
 | some e=>(match P.info? e with
  | some i=>(match i.zero with
   | some v=>cr z v
   | none=>false)
  | none=>false)
 | none=>false
theorem o_mlk {P B g F s a w Q o t ok str z x y x' y' dst r s' ac OO meth} (h : Sm B g F s a w [] [] []) (hd : ∀ k, o.dst = some k → k < B.nt) (hop : o.op = .lookup t x' y' ok)
    (hx:chkX x x'=true) (hy:chkX y y'=true) (hc:chkMlk P t str z=true) (he:evO OO meth (.mlk ok str z x y) s dst=some (r,s',ac)):Done P B o a w Q s' r:=by
 simp only [evO] at he
 split at he
 ·rename_i m s1 h1
  split at he
  ·rename_i k s2 h2
   obtain ⟨F2,Fy,kk⟩:=rx2_sim h hx hy h1 h2
   obtain ⟨A,C,eF,hA,hC⟩:=kk.two
   unfold mlkv at he
   split at he
   ·rename_i r0
    split at he
    ·rename_i es hes
     simp only [Option.map_eq_some_iff] at he
     obtain ⟨v,hv,e⟩:=he
     cases e
     obtain ⟨b,ev,rfl,hg⟩:=mo_inv hA
     obtain ⟨_,en,ck,m1,m2,m3,m4⟩:=kk.map hes hg
     unfold chkMlk at hc
     split at hc
     ·rename_i e hmt
      split at hc
      ·rename_i i hi
       split at hc
       ·rename_i zv hz
        obtain ⟨kt,kd,u1,u2,u3⟩:=chkMt_inv hmt
        have hzr:=cr_rv (im:=g.im) (gl:=g.gl) (w:=w) z zv hc
        have k0:=kk.drop .nil
        have hbase:∀ (q:Option (Nat × Value)),Instr.findNow kd (a.eval y') en.toList 0=some q → (Instr.lookup t (a.eval x') (a.eval y') ok).run P w=.ok (if ok then .tuple #[(q.map (·.2)).getD zv,.bool q.isSome] else (q.map (·.2)).getD zv) w:=by
         intro q hq
         have f1:=run_findKey (w:=w) u2 hq
         have f2:=run_checkKey (P:=P) (w:=w) u2 u3 en.toList.isEmpty (a.eval y')
         have f2':=run_checkKey (P:=P) (w:=w) u2 u3 en.isEmpty (a.eval y')
         rw [ev]
         cases q with
         | none=>cases ok <;> simp [Instr.lookup,underlying,u1,getObj,Sem.run,m1,f1,f2,f2',zeroValue,typeInfo,hi,hz]
         | some p=>cases ok <;> simp [Instr.lookup,underlying,u1,getObj,Sem.run,m1,f1,f2,f2']
        rcases find_sim u3 hC en.toList es 0 v m4 hv with ⟨rfl,c2⟩ | ⟨d,j,vv,rfl,c2,c3⟩
        ·have hr:=hbase none c2
         cases ok with
         | true =>
          have ht:g.rv w [.t [z,.b false]] [.tuple #[zv,.bool false]] [] := by
           have:=RVs.t [z,.b false] [zv,.bool false] (hzr.append (.b false .nil)) (RVs.nil (im:=g.im) (gl:=g.gl) (w:=w))
           simpa using this
          exact done_v hd (by simp only [execOp,hop,Sem.run_bind,hr,Result.andThen_ok,Sem.run_pure]; rfl) (k0.drop ht)
         | false=>exact done_v hd (by simp only [execOp,hop,Sem.run_bind,hr,Result.andThen_ok,Sem.run_pure]; rfl) (k0.drop hzr)
        ·have hr:=hbase (some (j,vv)) c2
         cases ok with
         | true =>
          have ht:g.rv w [.t [d,.b true]] [.tuple #[vv,.bool true]] [] := by
           have:=RVs.t [d,.b true] [vv,.bool true] (c3.append (.b true .nil)) (RVs.nil (im:=g.im) (gl:=g.gl) (w:=w))
           simpa using this
          exact done_v hd (by simp only [execOp,hop,Sem.run_bind,hr,Result.andThen_ok,Sem.run_pure]; rfl) (k0.drop ht)
         | false=>exact done_v hd (by simp only [execOp,hop,Sem.run_bind,hr,Result.andThen_ok,Sem.run_pure]; rfl) (k0.drop c3)
       ·cases hc
      ·cases hc
     ·cases hc
    ·cases he
   ·cases he
  ·cases he
 ·cases he
theorem o_mln {P B g F s a w Q o t x x' dst r s' ac OO meth} (h : Sm B g F s a w [] [] []) (hd : ∀ k, o.dst = some k → k < B.nt) (hop : o.op = .call { callee := .builtin .len, args := #[x'], argTypes := #[t] })
    (hx:chkX x x'=true) (hc:∃ str,(chkMt P t str).isSome=true) (he:evO OO meth (.mln x) s dst=some (r,s',ac)):Done P B o a w Q s' r:=by
 simp only [evO] at he
 split at he
 ·rename_i m s1 h1
  obtain ⟨F1,Fy,kk⟩:=rx1_sim h hx h1
  unfold mlnv at he
  split at he
  ·rename_i r0
   split at he
   ·rename_i es hes
    cases he
    have hA:=kk.ex
    obtain ⟨b,ev,rfl,hg⟩:=mo_inv hA
    obtain ⟨_,en,ck,m1,m2,m3,m4⟩:=kk.map hes hg
    obtain ⟨str,hc⟩:=hc
    obtain ⟨e,hmt⟩:=Option.isSome_iff_exists.1 hc
    obtain ⟨kt,kd,u1,u2,u3⟩:=chkMt_inv hmt
    have hl:=m4.length
    have hl2:∀ l:List MapEntry,(entV l).length=2 * l.length:=by
     intro l
     induction l with
     | nil=>rfl
     | cons x l ih=>simp only [entV,List.flatMap_cons,List.length_append,List.length_cons,List.length_nil] at ih ⊢; omega
    have hn:es.length / 2=en.size:=by rw [hl,hl2]; simp
    have k0:=kk.drop (.i .i64 (es.length / 2:Nat) .nil)
    refine done_v hd ?_ k0
    simp [execOp,hop,resolve,invoke,builtin,Builtin.len_,ev,underlying,u1,getObj,Sem.run,m1,goInt,hn]
   ·cases he
  ·cases he
 ·cases he
theorem Sm.newmp {B g F s a w ds vs Fx} (h:Sm B g F s a w ds vs Fx):∃ g' F',Sm B g' F' { s with sg:=s.sg ++ [[.u]] } a (w.alloc (.map #[] 0)) [.mo s.sg.length] [.map (some w.heap.size)] [] := by
 have h:=h.weaken [] [] [] .nil (by simp) List.nodup_nil
 have h':=h.alloc (.map #[] 0)
 have hnt:¬ Tot F [] w.heap.size:=fun hc=>by have:=(h.lt _ hc).1; omega
 have hnew:(w.alloc (.map #[] 0)).heap[w.heap.size]? = some (.map #[] 0):=heap_alloc_new w (.map #[] 0)
 have hold:∀ c,c < w.heap.size → (w.alloc (.map #[] 0)).heap[c]? = w.heap[c]? := fun c hc=>heap_alloc_old w _ c hc
 have hgm:∀ r b,g.gl r=some b → (fun r=>if r=s.sg.length then some (w.heap.size,true) else g.gl r) r=some b:=by
  intro r b e
  have:=h.glb r b e
  simp only
  rw [if_neg (by omega)]; exact e
 have hfr:∀ {L ds vs},(∀ b ∈ L,Tot F [] b) → g.rv w ds vs L → RVs g.im (fun r=>if r=s.sg.length then some (w.heap.size,true) else g.gl r) (w.alloc (.map #[] 0)) ds vs L :=
  fun hL hr=>hr.frame (fun _ _ _ e=>e) hgm (fun c hc=>⟨fun _=>rfl,hold c (h.lt c (hL c hc)).1⟩)
 have hgn:g.gp s.sg.length=none:=by
  cases e:g.gp s.sg.length with
  | none=>rfl
  | some b=>have:=h.glb _ _ (h.gpl _ _ e); omega
 refine ⟨{ g with gl:=fun r=>if r=s.sg.length then some (w.heap.size,true) else g.gl r },ups F (.gb s.sg.length) [w.heap.size],?_⟩
 refine { h' with sl:=?_,ob:=?_,gb:=?_,ex:=.mo _ _ (by simp) .nil,dslot:=?_,dob:=?_,dgb:=?_,dj:=?_,lt:=?_,gl0:=?_,glb:=?_,gpl:=?_,sgl:=?_,refs:=?_ }
 ·intro j r hj
  obtain ⟨v,hv,hr0⟩:=h.sl j r hj
  refine ⟨v,hv,?_⟩
  rw [ups_ne _ _ (by simp)]
  cases r with
  | v d=>exact hfr (fun b hb=>.inr ⟨_,hb⟩) hr0
  | q q =>
   refine ⟨hr0.1,hr0.2.of_same (fun _ _ e=>e) ?_ ?_⟩
   ·intro pl u hp
    have:=hp.of_blocks (w':=w.alloc (.map #[] 0)) hold
    cases pl with
    | ob i off=>exact this
    | gb r off=>exact this
   ·intro pl sz xs e
    refine ⟨xs,?_,rfl⟩
    cases pl with
    | ob i off=>exact e
    | gb r off =>
     simp only [St.at] at e ⊢
     cases e1:s.sg[r]? with
     | none=>rw [e1] at e; cases e
     | some cs0 =>
      have:r < s.sg.length:=by rw [List.getElem?_eq_some_iff] at e1; exact e1.1
      rw [List.getElem?_append_left this,e1]
      rw [e1] at e; exact e
 ·intro j cs' hj
  rw [ups_ne _ _ (by simp)]
  have:=h.ob j cs' hj
  unfold obOK at this ⊢
  dsimp only
  cases e:g.lc j with
  | none=>rw [e] at this; exact this
  | some x =>
   rw [e] at this
   cases x with
   | inl b=>exact Own.framed this hgm (fun _ _ _ e=>e) (fun c hc=>⟨fun _=>rfl,hold c (h.lt c (.inr ⟨_,hc⟩)).1⟩)
   | inr v=>obtain ⟨d,e1,e2⟩:=this; exact ⟨d,e1,hfr (fun b hb=>.inr ⟨_,hb⟩) e2⟩
 ·intro r cs' hj
  by_cases hlt:r < s.sg.length
  ·rw [List.getElem?_append_left hlt] at hj
   rw [ups_ne _ _ (by simp; omega)]
   exact (h.gb r cs' hj).framed rfl hgm (fun _ _ _ e=>e) (fun b hbm=>⟨fun _=>rfl,hold b (h.lt b (.inr ⟨_,hbm⟩)).1⟩)
  ·have hr0:r=s.sg.length:=by
    rw [List.getElem?_append_right (by omega)] at hj
    rw [List.getElem?_eq_some_iff] at hj
    obtain ⟨h0,_⟩:=hj
    simp at h0; omega
   subst hr0
   rw [List.getElem?_append_right (by omega)] at hj
   simp at hj
   subst hj
   rw [ups_same]
   exact .inr (.inr ⟨w.heap.size,hgn,by simp,#[],0,[],hnew,fun j=>h.imlt (Nat.le_refl _) j,rfl,rfl,.nil⟩)
 ·intro j hj; rw [ups_ne _ _ (by simp)]; exact h.dslot j hj
 ·intro j hj; rw [ups_ne _ _ (by simp)]; exact h.dob j hj
 ·intro j hj
  have:s.sg.length < j:=by
   rw [List.getElem?_eq_none_iff] at hj
   simp at hj; omega
  rw [ups_ne _ _ (by simp; omega)]
  exact h.dgb j (List.getElem?_eq_none (by omega))
 ·have:=(h.dj.new hnt)
  exact Dj.into (L:=[w.heap.size]) (Fx:=[]) (by simpa using this) _
 ·intro b hb
  rcases hb.ups with hb | hb
  ·simp at hb; subst hb
   exact ⟨by simp,.inr h.hs⟩
  ·exact h'.lt b (hb.sub (by simp))
 ·intro r b e; exact hgm r b (h.gl0 r b e)
 ·intro r b e
  simp only at e
  split at e
  ·simp; omega
  ·have:=h.glb r b e; simp; omega
 ·intro r b e
  have h1:=h.gpl r b e
  exact hgm _ _ h1
 ·have:=h.sgl; simp; omega
 ·intro m r c0 c1 hlo e0 e1 hn
  have hlt:r < B.sg0.length:=by rw [List.getElem?_eq_some_iff] at e0; exact e0.1
  have:=h.sgl
  rw [List.getElem?_append_left (by omega)] at e1
  exact h.refs m r c0 c1 hlo e0 e1 hn
theorem o_mkm' {P B g F s a w Q o t dst r s' ac OO meth} (h : Sm B g F s a w [] [] []) (hd : ∀ k, o.dst = some k → k < B.nt) (hop : o.op = .makeMap t none)
    (he:evO OO meth .mkm s dst=some (r,s',ac)):Done P B o a w Q s' r:=by
 simp only [evO,Option.some.injEq,Prod.mk.injEq] at he
 obtain ⟨rfl,rfl,_⟩:=he
 obtain ⟨g',F',k⟩:=h.newmp
 exact done_v (w':={ w with heap:=w.heap.push (.map #[] 0) }) hd (by simp [execOp,hop,Instr.makeMap,newObj,Sem.run]) k
theorem o_mup {P B g F s a w Q o t str x y v x' y' v' dst r s' ac OO meth} (h : Sm B g F s a w [] [] []) (hd : ∀ k, o.dst = some k → k < B.nt) (hop : o.op = .mapUpdate t x' y' v')
    (hx:chkX x x'=true) (hy:chkX y y'=true) (hv:chkX v v'=true) (hc:(chkMt P t str).isSome=true) (he:evO OO meth (.mup str x y v) s dst=some (r,s',ac)):Done P B o a w Q s' r:=by
 simp only [evO] at he
 split at he
 ·rename_i m s1 h1
  split at he
  ·rename_i k s2 h2
   split at he
   ·rename_i d s3 h3
    obtain ⟨F1,Fy,k1⟩:=rx1_sim h hx h1
    obtain ⟨F2,Fz,k2⟩:=rxv_sim k1 hy h2
    obtain ⟨F3,Fq,k3⟩:=rxv_sim k2 hv h3
    unfold mupv at he
    split at he
    ·rename_i r0
     split at he
     ·rename_i kc dc hkc hdc
      split at he
      ·rename_i es hes
       simp only [Option.map_eq_some_iff] at he
       obtain ⟨es',hset,e⟩:=he
       cases e
       have hex:=k3.ex
       simp only [List.nil_append,List.cons_append] at hex
       obtain ⟨v1,us,A1,B1,e1,e2,hA,hB⟩:=hex.cons_inv
       obtain ⟨v2,us2,A2,B2,e3,e4,hK,hV⟩:=hB.cons_inv
       obtain ⟨v3,e5⟩:=hV.single
       subst e5 e3
       simp only [List.cons.injEq,and_true] at e1
       obtain ⟨rfl,rfl,rfl⟩:=e1
       obtain ⟨b,ev,_,hg⟩:=mo_inv hA
       obtain ⟨hgp,en,ck,m1,m2,m3,m4⟩:=k3.map hes hg
       have hK':g.rv w [kc] [a.eval y'] [] := hK.cp [kc] (by simp [D.cps,hkc])
       have hV':g.rv w [dc] [a.eval v'] [] := hV.cp [dc] (by simp [D.cps,hdc])
       obtain ⟨e,hmt⟩:=Option.isSome_iff_exists.1 hc
       obtain ⟨kt,kd,u1,u2,u3⟩:=chkMt_inv hmt
       have k0:=k3.weaken [] [] [] .nil (by simp) List.nodup_nil
       have hlt:r0 < s3.sg.length:=by rw [List.getElem?_eq_some_iff] at hes; exact hes.1
       have hbl:b < w.heap.size:=by rw [Array.getElem?_eq_some_iff] at m1; exact m1.1
       have main : ∀ (en' : Array MapEntry) (ck' : Nat), g.rv w es' (entV en'.toList) [] → (Instr.mapUpdate t (a.eval x') (a.eval y') (a.eval v')).run P w = .ok () { w with heap := w.heap.setIfInBounds b (.map en' ck') } →
           Done P B o a w Q { s3 with sg:=s3.sg.set r0 (.u :: es'),lo:=if D.nr 0 dc then s3.lo else min s3.lo r0 } (.v .u):=by
        intro en' ck' hr hrun
        obtain ⟨w2,hw2⟩:∃ w2,w2={ w with heap:=w.heap.setIfInBounds b (.map en' ck') }:=⟨_,rfl⟩
        have hw2b:w2.heap[b]? = some (.map en' ck'):=by rw [hw2]; simp [hbl]
        have hw2o:∀ x,x ≠ b → w2.heap[x]? = w.heap[x]? := by
         intro x hxb
         rw [hw2]
         simp only [Array.getElem?_setIfInBounds]
         rw [if_neg (fun e=>hxb e.symm)]
        have hch:Chg B g g w w2 (F3 (.gb r0) ++ []) :=
         ⟨fun x hx=>hw2o x (by rintro rfl; rw [m3] at hx; simp at hx),by rw [hw2]; simp,fun _ _ _ e=>e,fun _ _ _=>rfl,fun c j u e=>by
          have hcb:c ≠ b:=by rintro rfl; rw [m2] at e; cases e
          exact (World.cell?_of_block (w:=w) (a:=⟨c,j,none⟩) (hw2o c hcb)).trans (k0.imok _ _ _ e),rfl,rfl,rfl,by rw [hw2],by rw [hw2],by rw [hw2]⟩
        have hres:=k0.setgb (ds':=[]) (vs':=[]) (Fx':=[]) r0 (.u :: es') (if D.nr 0 dc then s3.lo else min s3.lo r0) (fun _=>false) hlt hch
         (.inr (.inr ⟨b,hgp,hg,en',ck',es',hw2b,m2,rfl,rfl,hr.frame (fun _ _ _ e=>e) (fun _ _ e=>e) (by simp)⟩)) .nil (by simp) (by rw [m3]; simp)
         (by split; exact Nat.le_refl _; exact Nat.min_le_left _ _)
         (fun hl m c1 e1 hm=>by
          rw [hes] at e1; cases e1
          split at hl
          ·rename_i h0
           have hm':D.nrs m es=true:=by simpa [D.nrs,D.nr] using hm
           have hk0:D.nr m kc=true:=mkey_nr hset
           have:=mset_nr hset hm' (by exact hk0) (nr_mono (Nat.zero_le m) dc h0)
           simpa [D.nrs,D.nr] using this
          ·omega)
         (fun q v _ hq hgq=>by
          cases q with
          | ptr i off=>simp [AM.Q.gl] at hgq
          | hdr i=>simp [AM.Q.gl] at hgq
          | hd pl =>
           cases pl with
           | ob i off=>simp [AM.Q.gl] at hgq
           | gb r2 off =>
            obtain ⟨b2,f1,f2⟩:=hq
            have hne:b2 ≠ b:=by
             rintro rfl
             have hr2:r2 ≠ r0:=by rintro rfl; rw [hgp] at f1; cases f1
             exact k0.dj.dis (.gb r2) (.gb r0) (by simpa using hr2) b2 (k0.blk_gb f1) (by rw [m3]; simp)
            exact ⟨b2,f1,(World.cell?_of_block (w:=w) (w':=w2) (a:=⟨b2,off,none⟩) (hw2o b2 hne)).trans f2⟩
          | el pl ix fo =>
           cases pl with
           | ob i off=>simp [AM.Q.gl] at hgq
           | gb r2 off =>
            obtain ⟨b1,o1,len,cap,sz,xs,⟨b2,f1,f2⟩,f3,f4,f5⟩:=hq
            have hr2:r2 ≠ r0:=by rintro rfl; rw [hgp] at f1; cases f1
            have hne:b2 ≠ b:=by
             rintro rfl
             exact k0.dj.dis (.gb r2) (.gb r0) (by simpa using hr2) b2 (k0.blk_gb f1) (by rw [m3]; simp)
            refine ⟨b1,o1,len,cap,sz,xs,⟨b2,f1,(World.cell?_of_block (w:=w) (w':=w2) (a:=⟨b2,off,none⟩) (hw2o b2 hne)).trans f2⟩,?_,f4,f5⟩
            simp only [St.at] at f3 ⊢
            rw [List.getElem?_set_ne (Ne.symm hr2)]; exact f3)
        rw [forget_none] at hres
        exact done_s hd (by simp only [execOp,hop,Sem.run_bind,hrun,Result.andThen_ok,Sem.run_pure]; rw [hw2]) hres
       rcases set_sim u3 hK' hV' en.toList es es' 0 m4 hset with ⟨c1,c2⟩ | ⟨j,vv,x,c1,c2,c3,c4⟩
       ·refine main (en.push ⟨a.eval y',a.eval v',ck⟩) (ck + 1) (by simpa [entV] using c2 ck) ?_
        have f1:=run_findKey (w:=w) u2 c1
        have f2:=run_checkKey (P:=P) (w:=w) u2 u3 false (a.eval y')
        rw [ev]
        simp [Instr.mapUpdate,underlying,u1,getObj,setObj,Sem.run,m1,f1,f2,-World.alloc_eq]
       ·refine main (en.modify j fun e=>{ e with key:=a.eval y',val:=a.eval v' }) ck (by rw [Array.toList_modify]; exact c4) ?_
        have f1:=run_findKey (w:=w) u2 c1
        have f2:=run_checkKey (P:=P) (w:=w) u2 u3 false (a.eval y')
        have hx':en[j]? = some x:=by rw [← Array.getElem?_toList]; exact c2
        rw [ev]
        simp [Instr.mapUpdate,underlying,u1,getObj,setObj,Sem.run,m1,f1,f2,hx',Instr.keyThatStays,c3,-World.alloc_eq]
      ·cases he
     ·cases he
    ·cases he
   ·cases he
  ·cases he
 ·cases he
end Go.AM

namespace Go.AM
def arg1 (x:X) (as:Array Operand):Bool:=match as.toList with
 | [a] => chkX x a
 | _=>false
def arg2 (x y:X) (as:Array Operand):Bool:=match as.toList with
 | [a,b] => chkX x a && chkX y b
 | _=>false
theorem arg1_inv {x as} (h:arg1 x as=true):∃ a,as=#[a] ∧ chkX x a=true:=by
 obtain ⟨l⟩:=as
 unfold arg1 at h
 split at h
 ·rename_i a e; simp at e; subst e; exact ⟨a,rfl,h⟩
 ·cases h
theorem arg2_inv {x y as} (h:arg2 x y as=true):∃ a b,as=#[a,b] ∧ chkX x a=true ∧ chkX y b=true:=by
 obtain ⟨l⟩:=as
 unfold arg2 at h
 split at h
 ·rename_i a b e; simp at e; subst e; simp at h; exact ⟨a,b,rfl,h.1,h.2⟩
 ·cases h
def chkC (P:Program) (fb fr:Option FuncId) (o:O) (c:Call):Bool:=match o,c.callee with
 | .len str x,.builtin .len=>arg1 x c.args && (match c.argTypes.toList with | [t] => chkLen P t str | _=>false)
 | .mln x,.builtin .len=>arg1 x c.args && (match c.argTypes.toList with | [t] => (chkMt P t true).isSome || (chkMt P t false).isSome | _=>false)
 | .app sz bytes x y,.builtin .append=>arg2 x y c.args && (match c.argTypes.toList with | [t,t2] => chkApp P t t2 false sz bytes | _=>false)
 | .apps x y,.builtin .append=>arg2 x y c.args && (match c.argTypes.toList with | [t,t2] => chkApp P t t2 true 1 1 | _=>false)
 | .cpy sz x y,.builtin .copy=>arg2 x y c.args && (match c.argTypes.toList with | [t,t2] => chkCpy P t t2 sz | _=>false)
 | .srt f g x,.value (.func h)=>f == h && (match c.args.toList with | [x',.func g'] => chkX x x' && g == g' | _=>false)
 | .mx true xs,.builtin .max=>chkXs xs c.args.toList
 | .mx false xs,.builtin .min=>chkXs xs c.args.toList
 | .call f xs,.value (.func g)=>f == g && decide (f < Q0) && chkXs xs c.args.toList
 | .callp f xs,.value (.func g)=>f == g && decide (f < Q0) && chkXs xs c.args.toList
 | .callr f xs x,.value (.func g)=>f == g && decide (f < Q0) && (match x with | .t _=>true | _=>false) && chkXs xs c.args.toList
 | .callv x xs,.value x'=>chkX x x' && chkXs xs c.args.toList
 | .inv nm x xs,.invoke x' nm'=>nm == nm' && chkX x x' && chkXs xs c.args.toList
 | .bits x,.value (.func g)=>fb == some g && arg1 x c.args
 | .frbits x,.value (.func g)=>fr == some g && arg1 x c.args
 | _,_=>false
def chk1 (x:X):List Operand → Bool
 | [y] => chkX x y
 | _=>false
def chkO (P:Program) (fb fr:Option FuncId) (o:O) (op:Op):Bool:=match op with
 | .move y=>(match o with | .mv x=>chkX x y | _=>false)
 | .assign y=>(match o with | .mv x=>chkX x y | _=>false)
 | .pick c' x' y'=>(match o with | .pick c x y=>chkX c c' && chkX x x' && chkX y y' | _=>false)
 | .alloc t=>(match o with | .al z=>chkZ P t z | .ag z=>chkZ P t z | _=>false)
 | .box t x'=>(match o with | .bx x=>chkX x x' | .bg x=>chkX x x' | _=>false)
 | .build t qs=>(match o with | .bd z ps=>chkBd P t z ps qs.toList | _=>false)
 | .buildSlice t len qs=>(match o with | .bs sz n z ps=>chkBs P t len sz n z && chkPq ps qs.toList | _=>false)
 | .load t x'=>(match o with | .ld agg n m x=>chkX x x' && n != 0 && chkLd P t agg n m | .lda n x=>chkX x x' && n != 0 && chkLd P t false n .hd | _=>false)
 | .store t x' y'=>(match o with | .st n x y=>chkX x x' && chkX y y' && n != 0 && szT P t == some n | _=>false)
 | .nilCheck x'=>(match o with | .nc x=>chkX x x' | _=>false)
 | .binOp op' t x' y' _=>(match o with
  | .bin op x y=>op == op' && chkX x x' && chkX y y'
  | .eq neg c x y=>op' == (if neg then .neq else .eql) && chkX x x' && chkX y y' && chkEc P t c && chkG P t x' y' && c.oth
  | .eqa neg cs x y=>op' == (if neg then .neq else .eql) && chkX x x' && chkX y y' && chkSt P t cs
  | _=>false)
 | .unOp op' _ x'=>(match o with | .un op x=>op == op' && chkX x x' | _=>false)
 | .convert t u x'=>(match o with | .cv c x=>chkX x x' && (chkCv P t u c || chkCv2 P t u c) | _=>false)
 | .makeInterface t x'=>(match o with | .mi t' x=>t == t' && chkX x x' && (match P.underlying t with | some (.interface _)=>false | some _=>true | none=>false) | _=>false)
 | .makeFunc fn first xs'=>(match fn,o with | .func f,.mf g xs=>f == g && chkXs xs xs'.toList && first.size == 0 && decide (f < Q0) | .method nm,.mm nm' x=>nm == nm' && chk1 x first.toList && xs'.size == 0 | _,_=>false)
 | .makeMap t r'=>(match o with | .mv (.c .mp)=>r'.isNone | .mkm=>r'.isNone | _=>false)
 | .makeSlice t x' y'=>(match o with | .ms sz bytes z x y=>chkX x x' && chkX y y' && chkMs P t sz bytes z | _=>false)
 | .slice t x' lo' hi' mx'=>(match o with
  | .sl sz x lo hi mx=>chkX x x' && chkO? lo lo' && chkO? hi hi' && chkO? mx mx' && chkSl P t sz
  | .ss x lo hi=>chkX x x' && chkO? lo lo' && chkO? hi hi' && mx'.isNone && (match P.underlying t with | some .string=>true | _=>false)
  | _=>false)
 | .fieldAddr t x' j=>(match o with | .fa off x=>chkX x x' && chkFa P t j off | _=>false)
 | .field t x' j=>(match o with | .fd agg off n x=>chkX x x' && chkFd P t j agg off n | _=>false)
 | .indexAddr t x' y'=>(match o with | .ia sz len x y=>chkX x x' && chkX y y' && chkIaA P t sz len | _=>false)
 | .index t x' y'=>(match o with
  | .ixs x y=>chkX x x' && chkX y y' && (match P.underlying t with | some .string=>true | _=>false)
  | .ixa agg sz len x y=>chkX x x' && chkX y y' && chkIa P t agg sz len
  | _=>false)
 | .typeAssert x' _ t ok=>(match o with | .ta t' x=>t == t' && chkX x x' && chkTa P t && !ok | _=>false)
 | .extract x' n=>(match o,x' with | .ex _ n' k,.tmp k'=>n == n' && k == k' | _,_=>false)
 | .lookup t x' y' ok'=>(match o with | .mlk ok str z x y=>ok == ok' && chkX x x' && chkX y y' && chkMlk P t str z | _=>false)
 | .mapUpdate t x' y' v'=>(match o with | .mup str x y v=>chkX x x' && chkX y y' && chkX v v' && (chkMt P t str).isSome | _=>false)
 | .call c=>chkC P fb fr o c
 | _=>false
structure Lib (P:Program) (fb fr:Option FuncId) (meth:TypeId → String → Option FuncId):Prop where
 bits:∀ f,fb=some f → ∀ n w,(callFunc f #[.float .f64 n]).run P w=.ok (.value (.int .u64 n)) w
 frb:∀ f,fr=some f → ∀ n w,(callFunc f #[.int .u64 n]).run P w=.ok (.value (.float .f64 n.toNat)) w
 meth:MethOK P meth
theorem o_c {P B g F s a w Q} {o : Oper} {c : Call} {fb fr oo dst r s' ac OO meth} (h : Sm B g F s a w [] [] []) (hd : ∀ k, o.dst = some k → k < B.nt) (hO : CallOK P OO) (hL : Lib P fb fr meth) (hop : o.op = .call c)
    (hc:chkC P fb fr oo c=true) (he:evO OO meth oo s dst=some (r,s',ac)):Done P B o a w Q s' r:=by
 obtain ⟨callee,args,ats⟩:=c
 unfold chkC at hc
 split at hc
 ·rename_i str x e; simp only at e; subst e
  simp only [Bool.and_eq_true] at hc
  obtain ⟨y,rfl,h1⟩:=arg1_inv hc.1
  have h2:=hc.2
  split at h2
  ·rename_i t e; obtain ⟨l⟩:=ats; simp at e; subst e; exact o_len h hd hop h1 h2 he
  ·cases h2
 ·rename_i x e; simp only at e; subst e
  simp only [Bool.and_eq_true] at hc
  obtain ⟨y,rfl,h1⟩:=arg1_inv hc.1
  have h2:=hc.2
  split at h2
  ·rename_i t e; obtain ⟨l⟩:=ats; simp at e; subst e
   refine o_mln h hd hop h1 ?_ he
   rcases (Bool.or_eq_true _ _).mp h2 with h3 | h3
   ·exact ⟨true,h3⟩
   ·exact ⟨false,h3⟩
  ·cases h2
 ·rename_i sz bytes x y e; simp only at e; subst e
  simp only [Bool.and_eq_true] at hc
  obtain ⟨x',y',rfl,h1,h1'⟩:=arg2_inv hc.1
  have h2:=hc.2
  split at h2
  ·rename_i t t2 e; obtain ⟨l⟩:=ats; simp at e; subst e; exact o_app h hd hop h1 h1' h2 he
  ·cases h2
 ·rename_i x y e; simp only at e; subst e
  simp only [Bool.and_eq_true] at hc
  obtain ⟨x',y',rfl,h1,h1'⟩:=arg2_inv hc.1
  have h2:=hc.2
  split at h2
  ·rename_i t t2 e; obtain ⟨l⟩:=ats; simp at e; subst e; exact o_apps h hd hop h1 h1' h2 he
  ·cases h2
 ·rename_i sz x y e; simp only at e; subst e
  simp only [Bool.and_eq_true] at hc
  obtain ⟨x',y',rfl,h1,h1'⟩:=arg2_inv hc.1
  have h2:=hc.2
  split at h2
  ·rename_i t t2 e; obtain ⟨l⟩:=ats; simp at e; subst e; exact o_cpy h hd hop h1 h1' h2 he
  ·cases h2
 ·rename_i f gf x h' e; simp only at e; subst e
  simp only [Bool.and_eq_true,beq_iff_eq] at hc
  obtain ⟨rfl,h2⟩:=hc
  split at h2
  ·rename_i x' g' e; obtain ⟨l⟩:=args; simp at e; subst e
   simp only [Bool.and_eq_true,beq_iff_eq] at h2
   obtain ⟨h3,rfl⟩:=h2
   exact o_srt h hd hO hop h3 he
  ·cases h2
 ·rename_i xs e; exact o_mx (big:=true) h hd hop e hc he
 ·rename_i xs e; exact o_mx (big:=false) h hd hop e hc he
 ·rename_i f xs g' e; simp only at e; subst e
  simp only [Bool.and_eq_true,beq_iff_eq] at hc
  obtain ⟨⟨rfl,hf⟩,hc⟩:=hc
  exact o_call h hd hO hop (by simpa using hf) hc he
 ·rename_i f xs g' e; simp only at e; subst e
  simp only [Bool.and_eq_true,beq_iff_eq] at hc
  obtain ⟨⟨rfl,hf⟩,hc⟩:=hc
  exact o_callp h hd hO hop (by simpa using hf) hc he
 ·rename_i f xs x g' e; simp only at e; subst e
  simp only [Bool.and_eq_true,beq_iff_eq] at hc
  obtain ⟨⟨⟨rfl,hf⟩,ht⟩,hc⟩:=hc
  refine o_callr h hd hO hop (by simpa using hf) ?_ hc he
  split at ht
  ·exact ⟨_,rfl⟩
  ·cases ht
 ·rename_i x xs x' e; simp only at e; subst e
  simp only [Bool.and_eq_true] at hc
  exact o_callv h hd hO hop hc.1 hc.2 he
 ·rename_i nm x xs x' nm' e; simp only at e; subst e
  simp only [Bool.and_eq_true,beq_iff_eq] at hc
  obtain ⟨⟨rfl,h1⟩,h2⟩:=hc
  exact o_inv h hd hO hL.meth hop h1 h2 he
 ·rename_i x g' e; simp only at e; subst e
  simp only [Bool.and_eq_true,beq_iff_eq] at hc
  obtain ⟨x',rfl,h1⟩:=arg1_inv hc.2
  exact o_bits h hd hop h1 (hL.bits _ hc.1) he
 ·rename_i x g' e; simp only at e; subst e
  simp only [Bool.and_eq_true,beq_iff_eq] at hc
  obtain ⟨x',rfl,h1⟩:=arg1_inv hc.2
  exact o_frbits h hd hop h1 (hL.frb _ hc.1) he
 ·cases hc
theorem o_all {P B g F s a w Q} {o : Oper} {fb fr oo dst r s' ac OO meth} (h : Sm B g F s a w [] [] []) (hd : ∀ k, o.dst = some k → k < B.nt) (hO : CallOK P OO) (hL : Lib P fb fr meth)
    (hc:chkO P fb fr oo o.op=true) (he:evO OO meth oo s dst=some (r,s',ac)):Done P B o a w Q s' r:=by
 unfold chkO at hc
 split at hc <;> rename_i hop
 ·split at hc
  ·exact o_mv h hd (.inl hop) hc he
  ·cases hc
 ·split at hc
  ·exact o_mv h hd (.inr hop) hc he
  ·cases hc
 ·split at hc
  ·simp only [Bool.and_eq_true] at hc; exact o_pick h hd hop hc.1.1 hc.1.2 hc.2 he
  ·cases hc
 ·split at hc
  ·exact o_al h hd hop hc he
  ·exact o_ag h hd hop hc he
  ·cases hc
 ·split at hc
  ·exact o_bx h hd hop hc he
  ·exact o_bg h hd hop hc he
  ·cases hc
 ·split at hc
  ·exact o_bd h hd hop hc he
  ·cases hc
 ·split at hc
  ·simp only [Bool.and_eq_true] at hc; exact o_bs h hd hop hc.1 hc.2 he
  ·cases hc
 ·split at hc
  ·simp only [Bool.and_eq_true,bne_iff_ne] at hc; exact o_ld h hd hop hc.1.1 hc.1.2 hc.2 he
  ·simp only [Bool.and_eq_true,bne_iff_ne] at hc; exact o_lda h hd hop hc.1.1 hc.1.2 hc.2 he
  ·cases hc
 ·split at hc
  ·simp only [Bool.and_eq_true,beq_iff_eq,bne_iff_ne] at hc; exact o_st h hd hop hc.1.1.1 hc.1.1.2 hc.1.2 hc.2 he
  ·cases hc
 ·split at hc
  ·exact o_nc h hd (fun t nm f hf=>(hL.meth t nm f hf).2.2) hop hc he
  ·cases hc
 ·split at hc
  ·simp only [Bool.and_eq_true,beq_iff_eq] at hc
   obtain ⟨⟨rfl,h1⟩,h2⟩:=hc
   exact o_bin h hd hop h1 h2 he
  ·simp only [Bool.and_eq_true,beq_iff_eq] at hc
   obtain ⟨⟨⟨⟨⟨rfl,h1⟩,h2⟩,h3⟩,h4⟩,h5⟩:=hc
   exact o_eq h hd hop h1 h2 h3 h4 h5 he
  ·simp only [Bool.and_eq_true,beq_iff_eq] at hc
   obtain ⟨⟨⟨rfl,h1⟩,h2⟩,h3⟩:=hc
   exact o_eqa h hd hop h1 h2 h3 he
  ·cases hc
 ·split at hc
  ·simp only [Bool.and_eq_true,beq_iff_eq] at hc
   obtain ⟨rfl,h1⟩:=hc
   exact o_un h hd hop h1 he
  ·cases hc
 ·split at hc
  ·simp only [Bool.and_eq_true,Bool.or_eq_true] at hc
   rcases hc.2 with hc2 | hc2
   ·exact o_cv h hd hop hc.1 hc2 he
   ·exact o_cv2 h hd hop hc.1 hc2 he
  ·cases hc
 ·split at hc
  ·simp only [Bool.and_eq_true,beq_iff_eq] at hc
   obtain ⟨⟨rfl,h1⟩,h2⟩:=hc
   exact o_mi h hd hop h1 h2 he
  ·cases hc
 ·split at hc
  ·simp only [Bool.and_eq_true,beq_iff_eq] at hc
   obtain ⟨⟨⟨rfl,h1⟩,h2⟩,h3⟩:=hc
   exact o_mf h hd hop h1 h2 (by simpa using h3) he
  ·rename_i first xs' _ _ nm nm' x
   simp only [Bool.and_eq_true,beq_iff_eq] at hc
   obtain ⟨⟨rfl,h1⟩,h2⟩:=hc
   have e2:xs'=#[] := Array.size_eq_zero_iff.1 h2
   subst e2
   obtain ⟨l⟩:=first
   cases l with
   | nil=>simp [chk1] at h1
   | cons y l=>cases l with
    | nil=>exact o_mm h hd hop (by simpa [chk1] using h1) he
    | cons z l=>simp [chk1] at h1
  ·cases hc
 ·split at hc
  ·rw [Option.isNone_iff_eq_none] at hc
   rw [hc] at hop
   exact o_mkm h hd hop he
  ·rw [Option.isNone_iff_eq_none] at hc
   rw [hc] at hop
   exact o_mkm' h hd hop he
  ·cases hc
 ·split at hc
  ·simp only [Bool.and_eq_true] at hc; exact o_ms h hd hop hc.1.1 hc.1.2 hc.2 he
  ·cases hc
 ·split at hc
  ·simp only [Bool.and_eq_true] at hc
   obtain ⟨⟨⟨⟨h1,h2⟩,h3⟩,h4⟩,h5⟩:=hc
   exact o_sl h hd hop h1 h2 h3 h4 h5 he
  ·simp only [Bool.and_eq_true] at hc
   obtain ⟨⟨⟨⟨h1,h2⟩,h3⟩,h4⟩,h5⟩:=hc
   split at h5
   ·rename_i hu
    simp only [Option.isNone_iff_eq_none] at h4
    subst h4
    exact o_ss h hd hop h1 h2 h3 hu he
   ·cases h5
  ·cases hc
 ·split at hc
  ·simp only [Bool.and_eq_true] at hc; exact o_fa h hd hop hc.1 hc.2 he
  ·cases hc
 ·split at hc
  ·simp only [Bool.and_eq_true] at hc; exact o_fd h hd hop hc.1 hc.2 he
  ·cases hc
 ·split at hc
  ·simp only [Bool.and_eq_true] at hc; exact o_ia h hd hop hc.1.1 hc.1.2 hc.2 he
  ·cases hc
 ·split at hc
  ·simp only [Bool.and_eq_true] at hc
   have h5:=hc.2
   split at h5
   ·rename_i hu; exact o_ixs h hd hop hc.1.1 hc.1.2 hu he
   ·cases h5
  ·simp only [Bool.and_eq_true] at hc; exact o_ixa h hd hop hc.1.1 hc.1.2 hc.2 he
  ·cases hc
 ·split at hc
  ·simp only [Bool.and_eq_true,beq_iff_eq] at hc
   obtain ⟨⟨⟨rfl,h1⟩,h2⟩,h3⟩:=hc
   simp only [Bool.not_eq_true'] at h3
   subst h3
   exact o_ta h hd hop h1 h2 he
  ·cases hc
 ·split at hc
  ·simp only [Bool.and_eq_true,beq_iff_eq] at hc
   obtain ⟨rfl,rfl⟩:=hc
   exact o_ex h hd hop he
  ·cases hc
 ·split at hc
  ·simp only [Bool.and_eq_true,beq_iff_eq] at hc
   obtain ⟨⟨⟨rfl,h1⟩,h2⟩,h3⟩:=hc
   exact o_mlk h hd hop h1 h2 h3 he
  ·cases hc
 ·split at hc
  ·simp only [Bool.and_eq_true] at hc
   obtain ⟨⟨⟨h1,h2⟩,h3⟩,h4⟩:=hc
   exact o_mup h hd hop h1 h2 h3 h4 he
  ·cases hc
 ·exact o_c h hd hO hL hop hc he
 ·cases hc
end Go.AM

namespace Go.AM
def chkI (P:Program) (fb fr:Option FuncId) (ops:Array Oper) (nt:Nat) (i:I) (o:Oper):Bool :=
 i.dst == o.dst && (match o.dst with | some k=>decide (k < nt) | none=>true) &&
 (match i.gd,o.guard with | none,none=>true | some (k,b),some (j,b')=>b == b' && ((ops[j]?).bind (·.dst)) == some k | _,_=>false) && chkO P fb fr i.op o.op
theorem wants_sim {P fb fr ops nt i} {o:Oper} {B s a w t} (h:Sim B s a w) (hc:chkI P fb fr ops nt i o=true) (hw:wants s i.gd=some t):Region.wanted o (yielded ops a.tmps)=t:=by
 obtain ⟨g,F,h⟩:=h
 simp only [chkI,Bool.and_eq_true] at hc
 have hg:=hc.1.2
 unfold wants at hw
 split at hw
 ·rename_i e
  cases hw
  rw [e] at hg
  split at hg
  ·rename_i e1 e2; simp [Region.wanted,e2]
  ·rename_i e1 e2; cases e1
  ·cases hg
 ·rename_i k b e
  rw [e] at hg
  split at hg
  ·rename_i e1 _; cases e1
  ·rename_i k' b' j b'' e1 e2
   cases e1
   simp only [Bool.and_eq_true,beq_iff_eq] at hg
   obtain ⟨rfl,hd⟩:=hg
   simp only [Region.wanted,e2]
   split at hw
   ·rename_i x hk
    cases hw
    obtain ⟨v,hv,hr⟩:=h.sl k _ hk
    have ev:=bool_inv (show RVs g.im g.gl w [.b x] [v] (F (.sl k)) from hr)
    subst ev
    have hy:yielded ops a.tmps j=some x:=by simp [yielded,hd,hv]
    rw [hy]; cases x <;> cases b <;> rfl
   ·rename_i hk
    cases hw
    obtain ⟨v,hv,hr⟩:=h.sl k _ hk
    have ev:v=undef:=by
     have hr':RVs g.im g.gl w [.u] [v] (F (.sl k)):=hr
     cases hr' with | u _=>rfl
    subst ev
    have hy:yielded ops a.tmps j=none:=by simp [yielded,hd,hv,undef]
    rw [hy]; cases b <;> rfl
   ·cases hw
  ·cases hg
theorem put_undef {B g F s a w} (h:Sm B g F s a w [] [] []) (dst:Option Nat) (hd:∀ k,dst=some k → k < B.nt):Sim B (s.put dst (.v .u)) (a.put dst undef) w :=
 (h.drop (.u .nil)).put dst hd
theorem Sm.same {B g F s a w ds vs Fx} (h:Sm B g F s a w ds vs Fx) (t:St) (hfr:∀ j,look j t.fr=look j s.fr) (hob:∀ j,look j t.ob=look j s.ob) (hsg:t.sg=s.sg) (hlo:t.lo=s.lo):Sm B g F t a w ds vs Fx:=by
 have hat:∀ pl,t.at pl=s.at pl:=by
  intro pl
  cases pl with
  | ob k off=>simp [St.at,hob]
  | gb r off=>simp [St.at,hsg]
 exact { h with
  sl:=fun k r hk=>by
   obtain ⟨v,hv,hr⟩:=h.sl k r (by rw [← hfr]; exact hk)
   exact ⟨v,hv,hr.of_at hat⟩
  ob:=fun k cs hk=>h.ob k cs (by rw [← hob]; exact hk)
  gb:=fun r cs hk=>h.gb r cs (by rw [← hsg]; exact hk)
  lcd:=fun k x hk=>by rw [hob]; exact h.lcd k x hk
  dslot:=fun k hk=>h.dslot k (by rw [← hfr]; exact hk)
  dob:=fun k hk=>h.dob k (by rw [← hob]; exact hk)
  dgb:=fun r hk=>h.dgb r (by rw [← hsg]; exact hk)
  glb:=fun r b e=>by rw [hsg]; exact h.glb r b e
  sgl:=by rw [hsg]; exact h.sgl
  refs:=fun m r c0 c1 h1 h2 h3=>h.refs m r c0 c1 (by rw [← hlo]; exact h1) h2 (by rw [← hsg]; exact h3) }
theorem Sim.fo {B:Ba} {s:St} {a:Act} {w:World} {dst:Option Nat} {r:R} (h:Sim B (s.put dst r) a w):Sim B (s.put dst r.fo) a w:=by
 cases dst with
 | none=>exact h
 | some k =>
  cases r with
  | q x=>exact h
  | v d =>
   obtain ⟨g,F,hs⟩:=h
   have h1:Sim B { (s.put (some k) (.v d)) with fr:=(k,.v d.fo) :: drp k (s.put (some k) (.v d)).fr } a w:=gh_fz hs (k:=k) (by simp [evG,St.put,look])
   obtain ⟨g',F',hs'⟩:=h1
   refine ⟨g',F',hs'.same _ ?_ (fun _=>rfl) rfl rfl⟩
   intro j
   simp only [St.put,R.fo,look,look_drp]
   by_cases e:k=j
   ·rw [if_pos e,if_pos e]
   ·rw [if_neg e,if_neg e,if_neg (fun h=>e h.symm),if_neg e]
theorem Sim.zzr {B:Ba} {s:St} {a:Act} {w:World} {dst:Option Nat} {r:R} (n:Nat) (h:Sim B (s.put dst r) a w):Sim B (s.put dst (fzR (n + 2) r)) a w:=by
 cases dst with
 | none=>exact h
 | some k =>
  cases r with
  | q x=>exact h
  | v d =>
   obtain ⟨g,F,hs⟩:=h
   have h1:Sim B { (s.put (some k) (.v d)) with fr:=(k,.v d.zz) :: drp k (s.put (some k) (.v d)).fr } a w:=gh_zz hs (k:=k) (by simp [evG,St.put,look])
   obtain ⟨g',F',hs'⟩:=h1
   refine ⟨g',F',hs'.same _ ?_ (fun _=>rfl) rfl rfl⟩
   intro j
   simp only [St.put,fzR,look,look_drp]
   by_cases e:k=j
   ·rw [if_pos e,if_pos e]
   ·rw [if_neg e,if_neg e,if_neg (fun h=>e h.symm),if_neg e]
theorem i_sim {P : Program} {E : En} {OO : Or} {B : Ba} {ops i} {o : Oper} {s a w s' ac} (hO : CallOK P OO) (hL : Lib P E.fbits E.frb E.meth) (h : Sim B s a w) (hc : chkI P E.fbits E.frb ops B.nt i o = true) (he : evI E OO i s = some (s', ac))
    {K:Act → World → Prop} {Q:Exit → Act → World → Prop} (hK:∀ a' w',Sim B s' a' w' → K a' w') :
    if Region.wanted o (yielded ops a.tmps) then o.wp P a w K Q ∨ (o.asks P a w ∧ LetsOut Q) else K (a.put o.dst undef) w:=by
 have hc':=hc
 simp only [chkI,Bool.and_eq_true,beq_iff_eq] at hc'
 obtain ⟨⟨⟨hdst,hlt⟩,_⟩,hop⟩:=hc'
 have hd:∀ k,o.dst=some k → k < B.nt:=by
  intro k e
  rw [e] at hlt; simpa using hlt
 unfold evI at he
 split at he
 ·cases he
 ·rename_i hw
  rw [wants_sim h hc hw,if_pos rfl]
  left
  obtain ⟨g,F,hs⟩:=h
  simp only [Option.map_eq_some_iff] at he
  obtain ⟨⟨r,s1,ac1⟩,h1,h2⟩:=he
  cases h2
  refine o_all hs hd hO hL hop h1 K ?_
  rw [← hdst]
  intro a' w' h'
  refine hK a' w' ?_
  cases hf:i.fz with
  | zero=>exact h'
  | succ n=>cases n with
   | zero=>exact h'.fo
   | succ n=>exact h'.zzr n
 ·rename_i hw
  rw [wants_sim h hc hw,if_neg (by simp)]
  obtain ⟨g,F,hs⟩:=h
  cases he
  refine hK _ _ ?_
  rw [hdst]
  exact put_undef hs o.dst hd
def chkL (P:Program) (fb fr:Option FuncId) (ops:Array Oper) (nt:Nat):List I → List Oper → Bool
 | [],[] => true
 | i :: is,o :: os=>chkI P fb fr ops nt i o && chkL P fb fr ops nt is os
 | _,_=>false
theorem ops_sim {P : Program} {E : En} {OO : Or} {B : Ba} {ops : Array Oper} (hO : CallOK P OO) (hL : Lib P E.fbits E.frb E.meth) {Q : Exit → Act → World → Prop} {s' : St} (hQ : ∀ a' w', Sim B s' a' w' → Q .normal a' w') :
    ∀ (is:List I) (pre os:List Oper) (s:St) (a:Act) (w:World),ops.toList=pre ++ os → chkL P E.fbits E.frb ops B.nt is os=true → evOps E OO is s=some s' → Sim B s a w → wpOps P ops Q (List.range' pre.length os.length) a w
 | [],pre,[],s,a,w,hp,hc,he,h=>by
  simp only [evOps] at he
  cases he
  exact hQ _ _ h
 | i :: is,pre,o :: os,s,a,w,hp,hc,he,h=>by
  simp only [chkL,Bool.and_eq_true] at hc
  simp only [evOps] at he
  split at he
  ·rename_i s1 ac h1
   have ho:ops[pre.length]? = some o:=by
    rw [← Array.getElem?_toList,hp,List.getElem?_append_right (Nat.le_refl _)]; simp
   simp only [List.length_cons,List.range'_succ,wpOps,ho]
   refine i_sim hO hL h hc.1 h1 ?_
   intro a' w' h'
   have:=ops_sim hO hL hQ is (pre ++ [o]) os s1 a' w' (by simpa using hp) hc.2 he h'
   simpa using this
  ·cases he
 | [],pre,_ :: _,s,a,w,hp,hc,he,h=>by simp [chkL] at hc
 | _ :: _,pre,[],s,a,w,hp,hc,he,h=>by simp [chkL] at hc
end Go.AM

namespace Go.AM
def slotX:X → List Nat
 | .t n=>[n]
 | .k n=>[n]
 | .c _=>[]
def slotO? : Option X → List Nat
 | none=>[]
 | some x=>slotX x
def slotsO:O → List Nat
 | .mv x=>slotX x
 | .pick c a b=>slotX c ++ slotX a ++ slotX b
 | .al _=>[]
 | .ag _=>[]
 | .bx x=>slotX x
 | .bg x=>slotX x
 | .bd _ ps=>ps.flatMap fun p=>slotX p.2.2
 | .bs _ _ _ ps=>ps.flatMap fun p=>slotX p.2
 | .ld _ _ _ x=>slotX x
 | .lda _ x=>slotX x
 | .st _ x y=>slotX x ++ slotX y
 | .nc x=>slotX x
 | .bin _ x y=>slotX x ++ slotX y
 | .eq _ _ x y=>slotX x ++ slotX y
 | .eqa _ _ x y=>slotX x ++ slotX y
 | .un _ x=>slotX x
 | .cv _ x=>slotX x
 | .mi _ x=>slotX x
 | .mm _ x=>slotX x
 | .mf _ xs=>xs.flatMap slotX
 | .ms _ _ _ x y=>slotX x ++ slotX y
 | .ss x lo hi=>slotX x ++ slotO? lo ++ slotO? hi
 | .sl _ x lo hi mx=>slotX x ++ slotO? lo ++ slotO? hi ++ slotO? mx
 | .fa _ x=>slotX x
 | .fd _ _ _ x=>slotX x
 | .ia _ _ x y=>slotX x ++ slotX y
 | .ixs x y=>slotX x ++ slotX y
 | .ixa _ _ _ x y=>slotX x ++ slotX y
 | .ex _ _ k=>[k]
 | .len _ x=>slotX x
 | .app _ _ x y=>slotX x ++ slotX y
 | .apps x y=>slotX x ++ slotX y
 | .cpy _ x y=>slotX x ++ slotX y
 | .srt _ _ x=>slotX x
 | .mx _ xs=>xs.flatMap slotX
 | .call _ xs=>xs.flatMap slotX
 | .callp _ xs=>xs.flatMap slotX
 | .callr _ xs x=>slotX x ++ xs.flatMap slotX
 | .callv x xs=>slotX x ++ xs.flatMap slotX
 | .inv _ x xs=>slotX x ++ xs.flatMap slotX
 | .bits x=>slotX x
 | .frbits x=>slotX x
 | .ta _ x=>slotX x
 | .mkm=>[]
 | .mlk _ _ _ x y=>slotX x ++ slotX y
 | .mup _ x y v=>slotX x ++ (slotX y ++ slotX v)
 | .mln x=>slotX x
def I.looks (i:I):List Nat:=slotsO i.op ++ (match i.gd with | some (k,_)=>[k] | none=>[])
def tkX:X → List Nat
 | .k n=>[n]
 | _=>[]
def tkO? : Option X → List Nat
 | none=>[]
 | some x=>tkX x
def tksO:O → List Nat
 | .mv x=>tkX x
 | .pick c a b=>tkX c ++ tkX a ++ tkX b
 | .al _=>[]
 | .ag _=>[]
 | .bx x=>tkX x
 | .bg x=>tkX x
 | .bd _ ps=>ps.flatMap fun p=>tkX p.2.2
 | .bs _ _ _ ps=>ps.flatMap fun p=>tkX p.2
 | .ld _ _ _ x=>tkX x
 | .lda _ x=>tkX x
 | .st _ x y=>tkX x ++ tkX y
 | .nc x=>tkX x
 | .bin _ x y=>tkX x ++ tkX y
 | .eq _ _ x y=>tkX x ++ tkX y
 | .eqa _ _ x y=>tkX x ++ tkX y
 | .un _ x=>tkX x
 | .cv _ x=>tkX x
 | .mi _ x=>tkX x
 | .mm _ x=>tkX x
 | .mf _ xs=>xs.flatMap tkX
 | .ms _ _ _ x y=>tkX x ++ tkX y
 | .ss x lo hi=>tkX x ++ tkO? lo ++ tkO? hi
 | .sl _ x lo hi mx=>tkX x ++ tkO? lo ++ tkO? hi ++ tkO? mx
 | .fa _ x=>tkX x
 | .fd _ _ _ x=>tkX x
 | .ia _ _ x y=>tkX x ++ tkX y
 | .ixs x y=>tkX x ++ tkX y
 | .ixa _ _ _ x y=>tkX x ++ tkX y
 | .ex tk _ k=>if tk then [k] else []
 | .len _ x=>tkX x
 | .app _ _ x y=>tkX x ++ tkX y
 | .apps x y=>tkX x ++ tkX y
 | .cpy _ x y=>tkX x ++ tkX y
 | .srt _ _ x=>tkX x
 | .mx _ xs=>xs.flatMap tkX
 | .call _ xs=>xs.flatMap tkX
 | .callp _ xs=>xs.flatMap tkX
 | .callr _ xs x=>tkX x ++ xs.flatMap tkX
 | .callv x xs=>tkX x ++ xs.flatMap tkX
 | .inv _ x xs=>tkX x ++ xs.flatMap tkX
 | .bits x=>tkX x
 | .frbits x=>tkX x
 | .ta _ x=>tkX x
 | .mkm=>[]
 | .mlk _ _ _ x y=>tkX x ++ tkX y
 | .mup _ x y v=>tkX x ++ (tkX y ++ tkX v)
 | .mln x=>tkX x
def disj (a b:List Nat):Bool:=a.all fun x=>!b.contains x
def I.apart (i j:I):Bool :=
 (match i.dst with | some d=>!j.looks.contains d && j.dst != some d | none=>true) && (match j.dst with | some d=>!i.looks.contains d | none=>true) &&
 disj (tksO i.op) (tksO j.op ++ j.looks) && disj (tksO j.op) (tksO i.op ++ i.looks) && disj (tksO i.op) (match j.dst with | some d=>[d] | none=>[]) && disj (tksO j.op) (match i.dst with | some d=>[d] | none=>[])
def I.exes (i j:I):Bool:=match i.op,j.op,i.dst,j.dst,i.gd,j.gd with
 | .ex _ n k,.ex _ m k',some d,some e,none,none=>k == k' && n != m && d != k && e != k && d != e
 | _,_,_,_,_,_=>false
def I.apart2 (i j:I):Bool:=i.apart j || i.exes j
def anc1 (acc:List Nat):List Edge → Nat
 | [] => 0
 | e :: r=>if Region.binds .any e then 2 ^ e.on ||| acc.getD e.on 0 ||| anc1 acc r else anc1 acc r
def ancs (os:List Oper):List Nat:=os.foldl (fun acc o=>acc ++ [anc1 acc o.after.toList]) []
def chkD (is:List I) (os:List Oper):Bool :=
 let an:=ancs os
 (List.range is.length).all fun j=>decide (an.getD j 0 < 2 ^ j) && (List.range j).all fun i =>
  (an.getD j 0).testBit i || (match is[i]?,is[j]? with
   | some x,some y=>y.un.contains i && x.apart2 y
   | _,_=>false)
def DrawOK (P:Program) (E:En) (OO:Or):Prop :=
 ∀ (B:Ba) (id:Nat) (ops:Array Oper) (is:List I) (s s':St) (a:Act) (w:World) (Q:Exit → Act → World → Prop),
  chkL P E.fbits E.frb ops B.nt is ops.toList=true → chkD is ops.toList=true → evOpsD E OO is [] s=some s' → Sim B s a w → (∀ a' w',Sim B s' a' w' → Q .normal a' w') →
  (Code.region id ops true).wp P Q a w
def chkCode (P:Program) (fb fr:Option FuncId) (nt:Nat):C → Code → Bool
 | .skip,.skip=>true
 | .reg gs is dr ls os,.region _ ops dr'=>dr == dr' && chkL P fb fr ops nt is ops.toList && (!dr || chkD is ops.toList)
 | .seq a b,.seq x y=>chkCode P fb fr nt a x && chkCode P fb fr nt b y
 | .cond k a b,.cond c x y=>(match c with | .tmp j=>k == j | _=>false) && chkCode P fb fr nt a x && chkCode P fb fr nt b y
 | .blk n a,.block m x=>n == m && chkCode P fb fr nt a x
 | .loop a,.loop x=>chkCode P fb fr nt a x
 | .exit n,.exit m=>n == m
 | .ret,.ret=>true
 | _,_=>false
def RsQ (B:Ba) (r:Rs) (Q:Exit → Act → World → Prop):Prop:=match r with
 | .n s=>∀ a w,Sim B s a w → Q .normal a w
 | .x id s=>∀ a w,Sim B s a w → Q (.exit id) a w
 | .r s=>∀ a w,Sim B s a w → Q .ret a w
def LoopOK (P:Program) (E:En) (OO:Or):Prop :=
 ∀ (B:Ba) (c:C) (x:Code) (s:St) (r:Rs) (a:Act) (w:World) (Q:Exit → Act → World → Prop),chkCode P E.fbits E.frb B.nt c x=true → OO.loop c s=some r → Sim B s a w → RsQ B r Q → (Code.loop x).wp P Q a w
theorem code_sim {P : Program} {E : En} {OO : Or} {B : Ba} (hO : CallOK P OO) (hL : Lib P E.fbits E.frb E.meth) (hl : LoopOK P E OO) (hD : DrawOK P E OO) :
    ∀ (c:C) (x:Code) (s:St) (r:Rs) (a:Act) (w:World) (Q:Exit → Act → World → Prop),chkCode P E.fbits E.frb B.nt c x=true → evC E OO c s=some r → Sim B s a w → RsQ B r Q → x.wp P Q a w
 | .skip,x,s,r,a,w,Q,hc,he,h,hq=>by
  cases x <;> simp [chkCode] at hc
  simp only [evC] at he; cases he
  exact wp_skip (hq _ _ h)
 | .reg gs is dr ls os,x,s,r,a,w,Q,hc,he,h,hq=>by
  cases x <;> simp [chkCode] at hc
  rename_i id ops dr'
  obtain ⟨⟨rfl,hc⟩,hd⟩:=hc
  simp only [evC] at he
  split at he
  ·rename_i s1 h1
   have hs1:=gh_sim h h1
   split at he
   ·rename_i s2 h2
    cases he
    have hQ:∀ a' w',Sim B s2 a' w' → Q .normal a' w':=fun a' w' h'=>hq _ _ (keep_sim h' ls os)
    cases dr with
    | false =>
     simp only [Bool.false_eq_true,if_false] at h2
     refine wp_region ?_
     have:=ops_sim hO hL hQ is [] ops.toList s1 a w (by simp) hc h2 hs1
     rw [List.range_eq_range']
     simpa using this
    | true =>
     simp only [if_true] at h2
     exact hD B id ops is s1 s2 a w Q hc (by simpa using hd) h2 hs1 hQ
   ·cases he
  ·cases he
 | .seq c d,x,s,r,a,w,Q,hc,he,h,hq=>by
  cases x <;> simp [chkCode] at hc
  simp only [evC,sq] at he
  refine wp_seq ?_
  cases h1:evC E OO c s with
  | none=>rw [h1] at he; simp at he
  | some r1 =>
   rw [h1] at he
   refine code_sim hO hL hl hD c _ s r1 a w _ hc.1 h1 h ?_
   cases r1 with
   | n s1 =>
    simp only at he
    intro a' w' h'
    exact code_sim hO hL hl hD d _ s1 r a' w' Q hc.2 he h' hq
   | x id s1=>simp only at he; cases he; exact hq
   | r s1=>simp only at he; cases he; exact hq
 | .cond k c d,x,s,r,a,w,Q,hc,he,h,hq=>by
  cases x <;> simp [chkCode] at hc
  rename_i cc x y
  obtain ⟨⟨hk,hc1⟩,hc2⟩:=hc
  simp only [evC] at he
  split at he
  ·rename_i t ht
   obtain ⟨g,F,hs⟩:=h
   obtain ⟨v,hv,hr⟩:=hs.sl k _ ht
   have ev:=bool_inv (show RVs g.im g.gl w [.b t] [v] (F (.sl k)) from hr)
   subst ev
   have hcc:a.eval cc=.bool t:=by
    cases cc <;> simp at hk
    subst hk
    exact eval_tmp hv
   refine wp_cond hcc ?_
   cases t with
   | true=>simp only [if_true] at he ⊢; exact code_sim hO hL hl hD c _ s r a w Q hc1 he ⟨g,F,hs⟩ hq
   | false=>simp only [Bool.false_eq_true,if_false] at he ⊢; exact code_sim hO hL hl hD d _ s r a w Q hc2 he ⟨g,F,hs⟩ hq
  ·cases he
 | .blk n c,x,s,r,a,w,Q,hc,he,h,hq=>by
  cases x <;> simp [chkCode] at hc
  obtain ⟨rfl,hc⟩:=hc
  simp only [evC,bk] at he
  refine wp_block ?_
  cases h1:evC E OO c s with
  | none=>rw [h1] at he; simp at he
  | some r1 =>
   rw [h1] at he
   refine code_sim hO hL hl hD c _ s r1 a w _ hc h1 h ?_
   cases r1 with
   | n s1=>simp only at he; cases he; exact hq
   | r s1=>simp only at he; cases he; exact hq
   | x id s1 =>
    simp only at he
    intro a' w' h'
    simp only [Exit.inBlock]
    split at he
    ·rename_i e; cases he
     rw [if_pos e]; exact hq _ _ h'
    ·rename_i e; cases he
     rw [if_neg e]; exact hq _ _ h'
 | .loop c,x,s,r,a,w,Q,hc,he,h,hq=>by
  cases x <;> simp [chkCode] at hc
  simp only [evC] at he
  exact hl B c _ s r a w Q hc he h hq
 | .exit n,x,s,r,a,w,Q,hc,he,h,hq=>by
  cases x <;> simp [chkCode] at hc
  subst hc
  simp only [evC] at he; cases he
  exact wp_exit (hq _ _ h)
 | .ret,x,s,r,a,w,Q,hc,he,h,hq=>by
  cases x <;> simp [chkCode] at hc
  simp only [evC] at he; cases he
  exact wp_ret (hq _ _ h)
def chkRes (P:Program):List (Sum Nat (Nat × Bool × Nat)) → List ResultVar → Bool
 | [],[] => true
 | .inl k :: r,.tmp t :: rs=>k == t && chkRes P r rs
 | .inr (k,agg,n) :: r,.cell t ty :: rs=>k == t && aggT P ty == some agg && szT P ty == some n && (agg || n == 1) && chkRes P r rs
 | _,_=>false
def chkFn (P:Program) (fb fr:Option FuncId) (f:FuncId) (af:F):Bool:=match P.funcs[f]? with
 | some fn => fn.name != "runtime.NumGoroutine" && decide (af.np ≤ fn.ntmps) && chkRes P af.res fn.results.toList && (match fn.body with
  | some c=>chkCode P fb fr fn.ntmps af.body c
  | none=>false)
 | none=>false
end Go.AM

namespace Go.AM
theorem Sm.seat {B g F s a w d v ds vs Fx k} (h : Sm B g F s a w (d :: ds) (v :: vs) Fx) (hv : a.tmps[k]? = some v) :
    ∃ F' C,Sm B g F' { s with fr:=(k,.v d) :: s.fr } a w ds vs C:=by
 obtain ⟨v',us,A,C,e1,e2,r1,r2⟩:=RVs.cons_inv h.ex
 cases e1
 have hnd:=h.dj.ndx
 rw [e2] at hnd
 have hn1:=List.nodup_append.1 hnd
 refine ⟨ups F (.sl k) A,C,{ h with sl:=?sl,ob:=?ob,gb:=?gb,ex:=r2,dslot:=?dslot,dob:=?dob,dgb:=?dgb,dj:=?dj,lt:=?lt }⟩
 case sl =>
  intro j r' hj
  simp only [look] at hj
  split at hj
  ·rename_i e; subst e
   cases hj
   exact ⟨v,hv,by rw [ups_same]; exact r1⟩
  ·rename_i hne
   obtain ⟨u,hu,hru⟩:=h.sl j r' hj
   exact ⟨u,hu,by rw [ups_ne _ _ (by simp; omega)]; exact hru.of_at (at_fr s _)⟩
 case ob=>intro j cs hj; rw [ups_ne _ _ (by simp)]; exact h.ob j cs hj
 case gb=>intro j cs hj; rw [ups_ne _ _ (by simp)]; exact h.gb j cs hj
 case dslot =>
  intro j hj
  simp only [look] at hj
  split at hj
  ·cases hj
  ·rename_i hne; rw [ups_ne _ _ (by simp; omega)]; exact h.dslot j hj
 case dob=>intro j hj; rw [ups_ne _ _ (by simp)]; exact h.dob j hj
 case dgb=>intro j hj; rw [ups_ne _ _ (by simp)]; exact h.dgb j hj
 case dj=>exact Dj.into (L:=A) (Fx:=C) (by rw [← e2]; exact h.dj) _
 case lt =>
  intro b hb
  rcases hb.ups with hb | hb
  ·exact h.lt b (.inl (by rw [e2]; simp [hb]))
  ·exact h.lt b (hb.sub (fun b hb=>by rw [e2]; simp [hb]))
theorem look_append {α : Type} (j:Nat):∀ (a b:List (Nat × α)),look j (a ++ b)=match look j a with | some x=>some x | none=>look j b
 | [],b=>rfl
 | (i,x) :: a,b=>by
  simp only [List.cons_append,look]
  split
  ·rfl
  ·exact look_append j a b
theorem look_ini {j:Nat}:∀ {ds:List D} {n:Nat},j < n → look j (ini n ds)=none
 | [],n,h=>rfl
 | d :: ds,n,h=>by simp only [ini,look]; rw [if_neg (by omega)]; exact look_ini (by omega)
theorem Sm.seats {B g a w} : ∀ (ds : List D) (vs : List Value) (n : Nat) {F s Fx}, Sm B g F s a w ds vs Fx → (∀ i v, vs[i]? = some v → a.tmps[n + i]? = some v) → (∀ j, n ≤ j → look j s.fr = none) →
    ∃ F',Sm B g F' { s with fr:=ini n ds ++ s.fr } a w [] [] []
 | [],vs,n,F,s,Fx,h,hv,hl=>⟨F,by simpa [ini] using h.weaken [] [] [] .nil (by simp) List.nodup_nil⟩
 | d :: ds,vs,n,F,s,Fx,h,hv,hl=>by
  have hlen:=h.ex.length
  cases vs with
  | nil=>simp at hlen
  | cons v vs =>
   obtain ⟨F1,C,k⟩:=h.seat (k:=n) (hv 0 v rfl)
   obtain ⟨F2,k2⟩:=Sm.seats ds vs (n + 1) k (fun i u hi=>by have:=hv (i + 1) u (by simpa using hi); rwa [show n + (i + 1)=n + 1 + i by omega] at this)
    (fun j hj=>by simp only [look]; rw [if_neg (by omega)]; exact hl j (by omega))
   refine ⟨F2,k2.same _ ?_ (fun _=>rfl) rfl rfl⟩
   intro j
   simp only [ini,List.cons_append,look,look_append]
   by_cases e:n=j
   ·subst e
    rw [if_pos rfl,look_ini (by omega)]; simp
   ·rw [if_neg e,if_neg e]
def resF (tmps:Array Value) (r:ResultVar):Sem Value:=match r with
 | .tmp t=>pure (tmps.getD t undef)
 | .cell p t=>do loadVar t (← asAddr (tmps.getD p undef))
theorem results_eq (fn : Func) (tmps : Array Value) : results fn tmps = (do
    let vs ← fn.results.mapM (resF tmps)
    pure (if h:vs.size=1 then vs[0] else .tuple vs)):=by
 unfold results
 congr 1
theorem run_one {P:Program} {w:World} {α : Type} (f:α → Sem Value) (x:α) (xs:List α) {v:Value} {us:List Value} (h1:(f x).run P w=.ok v w) (h2:(xs.mapM f).run P w=.ok us w):((x :: xs).mapM f).run P w=.ok (v :: us) w:=by
 simp [List.mapM_cons,h1,h2]
theorem res_sim {P : Program} {B : Ba} {a : Act} {w : World} {g : G} : ∀ (rs : List (Sum Nat (Nat × Bool × Nat))) (rvs : List ResultVar) {F s ds vs Fx es s'}, Sm B g F s a w ds vs Fx → chkRes P rs rvs = true → resv rs s = some (es, s') →
    ∃ F' us Fx',Sm B g F' s' a w (ds ++ es) (vs ++ us) Fx' ∧
     (rvs.mapM (resF a.tmps)).run P w=.ok us w
 | [],[],F,s,ds,vs,Fx,es,s',h,hc,he=>by
  simp only [resv] at he; cases he
  exact ⟨F,[],Fx,by simpa using h,by simp⟩
 | .inl k :: rs,.tmp t :: rvs,F,s,ds,vs,Fx,es,s',h,hc,he=>by
  simp only [chkRes,Bool.and_eq_true,beq_iff_eq] at hc
  obtain ⟨rfl,hc⟩:=hc
  simp only [resv] at he
  split at he
  ·rename_i d hk
   split at he
   ·rename_i es' s1 h1
    cases he
    obtain ⟨v,hv,_,k1,_⟩:=h.take hk
    obtain ⟨F2,us,Fx2,k2,hr⟩:=res_sim rs rvs (k1 d rfl) hc h1
    refine ⟨F2,v :: us,Fx2,by simpa [List.append_assoc] using k2,run_one _ _ _ ?_ hr⟩
    simp [resF,Array.getD_eq_getD_getElem?,hv]
   ·cases he
  ·cases he
 | .inr (k,agg,n) :: rs,.cell p ty :: rvs,F,s,ds,vs,Fx,es,s',h,hc,he=>by
  simp only [chkRes,Bool.and_eq_true,beq_iff_eq,Bool.or_eq_true] at hc
  obtain ⟨⟨⟨⟨rfl,c1⟩,c2⟩,c3⟩,hc⟩:=hc
  simp only [resv] at he
  split at he
  ·rename_i j off hk
   split at he
   ·rename_i d s1 ac hld
    split at he
    ·rename_i es' s2 h1
     cases he
     obtain ⟨v,hv,hq⟩:=h.sl k _ hk
     obtain ⟨b,hl,rfl⟩:=hq.2
     simp only [ldp] at hld
     split at hld
     ·cases hld
     ·rename_i cs hcs
      split at hld
      ·cases hld
      ·rename_i es0 hs
       simp only [Option.map_eq_some_iff] at hld
       obtain ⟨d',h3,h4⟩:=hld
       cases h4
       have hown:=h.own_ob hl hcs
       obtain ⟨c,tt,f,L',A',k1,k2,k3,k4,k5,k6,k7⟩:=hown.out (h.dj.nd _) hs
       have hch:=Chg.refl h (F (.ob j) ++ Fx)
       have hd1:=ofc_load k5 h3 k2
       have hperm:(L' ++ (Fx ++ A')).Nodup:=by
        rw [List.nodup_append]
        refine ⟨(List.nodup_append.1 k6).1,?_,?_⟩
        ·rw [List.nodup_append]
         exact ⟨h.dj.ndx,(List.nodup_append.1 k6).2.1,fun x hx y hy e=>h.dj.dix (.ob j) x (k7 x (by subst e; simp [hy])) hx⟩
        ·intro x hx y hy e
         subst e
         rcases List.mem_append.1 hy with hy | hy
         ·exact h.dj.dix (.ob j) x (k7 x (by simp [hx])) hy
         ·exact mem_nd k6 hx hy
       have k8:=h.setob (ds':=ds ++ [d]) (vs':=vs ++ [if agg then .agg ((c.toList.drop off).take n).toArray else ((c.toList.drop off).take n).getD 0 undef]) (Fx':=Fx ++ A') j (ovr cs off (List.replicate n .w)) (Q.bor j) ⟨cs,hcs⟩ hch (by unfold obOK; rw [hl]; exact k4) (h.ex.append hd1) hperm
        (fun x hx=>by
         simp only [List.mem_append] at hx ⊢
         rcases hx with hx | hx | hx
         ·exact .inl (k7 x (by simp [hx]))
         ·exact .inr hx
         ·exact .inl (k7 x (by simp [hx])))
        (fun q v hp hqo hok=>bor_ptr hp hok hqo (fun _ _ e=>e))
       obtain ⟨F2,us,Fx2,k9,hr⟩:=res_sim rs rvs k8 hc h1
       refine ⟨F2,_ :: us,Fx2,by simpa [List.append_assoc] using k9,run_one _ _ _ ?_ hr⟩
       have hrun:=run_load' (P:=P) (w:=w) (t:=ty) (b:=b) (off:=off) c1 c2 c3 k3 (fun i u hi=>part_cells k1 i u hi)
       simp only [Instr.loadAt,Instr.sureAddr] at hrun
       simp [resF,Array.getD_eq_getD_getElem?,hv,asAddr]
       simpa using hrun
    ·cases he
   ·cases he
  ·cases he
 | [],_ :: _,F,s,ds,vs,Fx,es,s',h,hc,he=>by simp [chkRes] at hc
 | .inl _ :: _,[],F,s,ds,vs,Fx,es,s',h,hc,he=>by simp [chkRes] at hc
 | .inr _ :: _,[],F,s,ds,vs,Fx,es,s',h,hc,he=>by simp [chkRes] at hc
 | .inl _ :: _,.cell _ _ :: _,F,s,ds,vs,Fx,es,s',h,hc,he=>by simp [chkRes] at hc
 | .inr _ :: _,.tmp _ :: _,F,s,ds,vs,Fx,es,s',h,hc,he=>by simp [chkRes] at hc
theorem Sm.leave {B g F s a w ds vs Fx} (h:Sm B g F s a w ds vs Fx):Sm { B with nt:=0 } { g with lc:=fun _=>none } (glF F) ⟨[],[],s.sg,s.lo⟩ ⟨#[],[]⟩ w ds vs Fx:=by
 have hgl:∀ x b,b ∈ glF F x → ∃ r,x=.gb r ∧ b ∈ F (.gb r):=by
  intro x b hb
  cases x with
  | gb r=>exact ⟨r,rfl,hb⟩
  | sl k=>cases hb
  | ob k=>cases hb
 refine { df:=rfl,nt:=rfl,sl:=by simp [look],ob:=by simp [look],gb:=h.gb,ex:=h.ex,lcd:=by simp,dslot:=fun _ _=>rfl,dob:=fun _ _=>rfl,dgb:=h.dgb,dj:=⟨?_,?_,?_,h.dj.ndx⟩,lt:=?_,imok:=h.imok,im0:=h.im0,gl0:=h.gl0,glb:=h.glb,gpl:=h.gpl,gl0b:=h.gl0b,sgl:=h.sgl,keep:=h.keep,os:=h.os,tape:=h.tape,out:=h.out,hs:=h.hs,refs:=h.refs }
 ·intro x y hxy b hb hb'
  obtain ⟨r,rfl,h1⟩:=hgl x b hb
  obtain ⟨r',rfl,h2⟩:=hgl y b hb'
  exact h.dj.dis _ _ hxy b h1 h2
 ·intro x b hb hx
  obtain ⟨r,rfl,h1⟩:=hgl x b hb
  exact h.dj.dix _ b h1 hx
 ·intro x
  cases x with
  | gb r=>exact h.dj.nd _
  | sl k=>exact List.nodup_nil
  | ob k=>exact List.nodup_nil
 ·intro b hb
  rcases hb with hb | ⟨x,hb⟩
  ·exact h.lt b (.inl hb)
  ·obtain ⟨r,rfl,h1⟩:=hgl x b hb
   exact h.lt b (.inr ⟨_,h1⟩)
theorem RVs.inScope {im:Nat → Nat → Option Value} {gl:Nat → Option (Nat × Bool)} {w:World} {ds:List D} {vs:List Value} {F:List Nat} {n:Nat} (hg:∀ r b,gl r=some b → r < n) (h:RVs im gl w ds vs F):D.nrs n ds=true:=by
 induction h with
 | nil=>rfl
 | b x _ ih=>simpa [D.nrs,D.nr] using ih
 | i k n _ ih=>simpa [D.nrs,D.nr] using ih
 | f k n _ ih=>simpa [D.nrs,D.nr] using ih
 | s x _ ih=>simpa [D.nrs,D.nr] using ih
 | nilp _ ih=>simpa [D.nrs,D.nr] using ih
 | p r off b hb _ ih=>simp [D.nrs,D.nr,ih,hg r _ hb]
 | q cs off b o us hu h1 _ _ ihc ih=>simp [D.nrs,D.nr,ih,ihc]
 | lnil k sz _ ih=>simp [D.nrs,D.nr,ih]
 | lez k hk sz x cap hn _ ih=>simp [D.nrs,D.nr,ih]
 | lz k hk sz xs b o cap us hcap hn hs hu h1 _ _ ihc ih=>rw [nrs_cellsOf] at ihc; simp [D.nrs,D.nr,ih,ihc]
 | lo sz xs b o cap us hcap hs hu h1 hr hi _ _ ihc ih=>rw [nrs_cellsOf] at ihc; simp [D.nrs,D.nr,ih,ihc]
 | lx sz xs b o cap us hcap hs hu h1 hr hi _ _ ihc ih=>rw [nrs_cellsOf] at ihc; simp [D.nrs,D.nr,ih,ihc]
 | a cs us h1 _ _ ihc ih=>simp [D.nrs,D.nr,ih,ihc]
 | t cs us _ _ ihc ih=>simp [D.nrs,D.nr,ih,ihc]
 | ic ty d v _ _ ihc ih=>simp [D.nrs,D.nr,ih] at ihc ⊢; exact ihc
 | bm nm d v _ _ ihc ih=>simp [D.nrs,D.nr,ih] at ihc ⊢; exact ihc
 | nili _ ih=>simpa [D.nrs,D.nr] using ih
 | fn g cs us _ _ _ ihc ih=>simp [D.nrs,D.nr,ih,ihc]
 | nilf _ ih=>simpa [D.nrs,D.nr] using ih
 | mp r _ ih=>simpa [D.nrs,D.nr] using ih
 | mo r b hb _ ih=>simp [D.nrs,D.nr,ih,hg r _ hb]
 | u _ ih=>simpa [D.nrs,D.nr] using ih
 | w v _ ih=>simpa [D.nrs,D.nr] using ih
theorem Sm.cut {B g F s a w d v Fx} (h : Sm B g F s a w [d] [v] Fx) (hfr : s.fr = []) (hob : s.ob = []) (hlc : ∀ k, g.lc k = none) (hd : D.nr B.sg0.length d = true) (hlo : B.sg0.length ≤ s.lo) (h0 : ∀ (r : Nat) (c0 : List D), B.sg0[r]? = some c0 → D.nrs B.sg0.length c0 = true) :
    Sm B { g with gl:=fun r=>if r < B.sg0.length then g.gl r else none,gp:=fun r=>if r < B.sg0.length then g.gp r else none } (fun x=>match x with | .gb r=>if r < B.sg0.length then F (.gb r) else [] | x=>F x) { s with sg:=s.sg.take B.sg0.length } a w [d] [v] Fx:=by
 have hsub:∀ x b,b ∈ (match x with | Site.gb r=>if r < B.sg0.length then F (.gb r) else [] | x=>F x) → b ∈ F x:=by
  intro x b hb
  cases x with
  | sl k=>exact hb
  | ob k=>exact hb
  | gb r=>simp only at hb; split at hb; exact hb; cases hb
 have htake:∀ r,(s.sg.take B.sg0.length)[r]? = if r < B.sg0.length then s.sg[r]? else none:=fun r=>List.getElem?_take
 refine { h with sl:=by simp [hfr,look],ob:=by simp [hob,look],gb:=?_,ex:=?_,lcd:=fun k x hk=>(by rw [hlc] at hk; cases hk),dslot:=h.dslot,dob:=h.dob,dgb:=?_,dj:=⟨?_,?_,?_,h.dj.ndx⟩,lt:=?_,gl0:=?_,glb:=?_,gpl:=?_,sgl:=?_,refs:=?_ }
 ·intro r cs hr
  rw [htake] at hr
  split at hr
  ·rename_i hlt
   have hnr:D.nrs B.sg0.length cs=true:=h.refs _ r _ cs (by omega) (List.getElem?_eq_getElem hlt) hr (h0 r _ (List.getElem?_eq_getElem hlt))
   rw [show (match Site.gb r with | .gb r=>if r < B.sg0.length then F (.gb r) else [] | x=>F x)=F (.gb r) from if_pos hlt]
   rcases h.gb r cs hr with ⟨b,h1,c,t,f,F',k1,k2,k3,k4,k5,k6⟩ | ⟨h1,h2,h3⟩ | ⟨b,h1,h2,en,ck,es,k1,k2,k3,k4,k5⟩
   ·exact .inl ⟨b,by simp only [if_pos hlt]; exact h1,c,t,f,F',k1,k2,k3,k4,k5,k6.nr B.sg0.length hnr⟩
   ·exact .inr (.inl ⟨by simp only [if_pos hlt]; exact h1,h2,h3⟩)
   ·refine .inr (.inr ⟨b,by simp only [if_pos hlt]; exact h1,by simp only [if_pos hlt]; exact h2,en,ck,es,k1,k2,k3,k4,k5.nr B.sg0.length ?_⟩)
    rw [k4] at hnr
    simpa [D.nrs,D.nr] using hnr
  ·cases hr
 ·exact h.ex.nr B.sg0.length (by simp [D.nrs,hd])
 ·intro r hr
  rw [htake] at hr
  simp only
  split
  ·rename_i hlt; rw [if_pos hlt] at hr; exact h.dgb r hr
  ·rfl
 ·intro x y hxy b hb hb'; exact h.dj.dis x y hxy b (hsub x b hb) (hsub y b hb')
 ·intro x b hb hx; exact h.dj.dix x b (hsub x b hb) hx
 ·intro x
  cases x with
  | sl k=>exact h.dj.nd _
  | ob k=>exact h.dj.nd _
  | gb r=>simp only; split; exact h.dj.nd _; exact List.nodup_nil
 ·intro b hb
  rcases hb with hb | ⟨x,hb⟩
  ·exact h.lt b (.inl hb)
  ·exact h.lt b (.inr ⟨x,hsub x b hb⟩)
 ·intro r b e
  simp only [if_pos (h.gl0b r b e)]; exact h.gl0 r b e
 ·intro r b e
  simp only at e
  split at e
  ·have:=h.sgl; simp; omega
  ·cases e
 ·intro r b e
  simp only at e ⊢
  split at e
  ·rename_i h0; rw [if_pos h0]; exact h.gpl r b e
  ·cases e
 ·have:=h.sgl; simp; omega
 ·intro m r c0 c1 h1 h2 h3
  rw [htake] at h3
  split at h3
  ·exact h.refs m r c0 c1 h1 h2 h3
  ·cases h3
def tupV:List Value → Value
 | [u] => u
 | us=>.tuple us.toArray
def rid (f:FuncId):FuncId:=if f < Q0 then f else f - Q0
def LibF (P : Program) (E : En) : Prop := ∀ f ds d, E.lib f ds = some d → f < Q0 ∧ Enters P f ∧ ∀ (sg : List (List D)) (w : World) (g : G) (F0 : List Nat) (F : Site → List Nat) (vs : List Value) (Fx : List Nat),
    Sm ⟨w,g.im,g.gl,sg,F0,0⟩ g F ⟨[],[],sg,sg.length⟩ ⟨#[],[]⟩ w ds vs Fx →
    Calls P f vs.toArray w (fun e w'=>match e with
     | .returned v=>∃ g' F' Fx',Sm ⟨w,g.im,g.gl,sg,F0,0⟩ g' F' ⟨[],[],sg,sg.length⟩ ⟨#[],[]⟩ w' [d] [v] Fx'
     | _=>False)
def EnvOK (P:Program) (E:En):Prop:=(∀ f af,E.fn f=some af → chkFn P E.fbits E.frb (rid f) af=true) ∧ LibF P E ∧ SrtOK P E.srt
theorem step_core {P : Program} {E : En} {OO : Or} (hL : Lib P E.fbits E.frb E.meth) (hO : CallOK P OO) (hl : LoopOK P E OO) (hD : DrawOK P E OO) {f : FuncId} {af : F}
    (hc:chkFn P E.fbits E.frb f af=true) {fr:List (Nat × R)} {sg:List (List D)} {d sg' lo'} (he:AM.fin af sg.length (evC E OO af.body ⟨fr,[],sg,sg.length⟩)=some (d,sg',lo')) :
    Enters P f ∧ ∀ (w:World) (g:G) (F0:List Nat) (vs:List Value),vs.length=af.np →
     (∀ (nt:Nat) (a0:Act),a0.defers=[] → a0.tmps.size=nt → (∀ (i:Nat) (v:Value),vs[i]? = some v → a0.tmps[i]? = some v) → ∃ F1,Sm ⟨w,g.im,g.gl,sg,F0,nt⟩ g F1 ⟨fr,[],sg,sg.length⟩ a0 w [] [] []) →
     (∀ (r:Nat) (c0:List D),sg[r]? = some c0 → D.nrs sg.length c0=true) →
     Calls P f vs.toArray w (fun e w'=>match e with
      | .returned v=>∃ g' F' Fx',Sm ⟨w,g.im,g.gl,sg,F0,0⟩ g' F' ⟨[],[],sg',lo'⟩ ⟨#[],[]⟩ w' [d] [v] Fx'
      | _=>False):=by
 unfold chkFn at hc
 split at hc
 ·rename_i fn hfn
  simp only [Bool.and_eq_true,bne_iff_ne,decide_eq_true_eq] at hc
  obtain ⟨⟨⟨hname,hle⟩,hres⟩,hbody⟩:=hc
  split at hbody
  ·rename_i c hb
   refine ⟨?_,?_⟩
   ·intro args w
    have h2:¬ fn.body=none:=by rw [hb]; simp
    simp [callFunc,hfn,hname,h2]
   ·intro w g F0 vs hlen hseat h0r
    refine calls_of_wp hfn hb ?_
    let a0:Act:={ tmps:=vs.toArray ++ Array.replicate (fn.ntmps - vs.toArray.size) undef,defers:=[] }
    have hsz:a0.tmps.size=fn.ntmps:=by simp [a0]; omega
    obtain ⟨F1,h2⟩:=hseat fn.ntmps a0 rfl hsz (fun i v hi=>by
     have hil:i < vs.length:=by rw [List.getElem?_eq_some_iff] at hi; exact hi.1
     simp only [a0]
     rw [Array.getElem?_append_left (by simpa using hil)]; simpa using hi)
    have fin : ∀ s, (match resv af.res s with
        | some (ds,s)=>if D.nr sg.length (tup ds) && decide (sg.length ≤ s.lo) then some (tup ds,s.sg.take sg.length,s.lo) else some (tup ds,s.sg,s.lo)
        | none=>none)=some (d,sg',lo') → ∀ a' w',Sim ⟨w,g.im,g.gl,sg,F0,fn.ntmps⟩ s a' w' →
        a'.defers=[] ∧ ∃ v,(results fn a'.tmps).run P w'=.ok v w' ∧ ∃ g' F' Fx',Sm ⟨w,g.im,g.gl,sg,F0,0⟩ g' F' ⟨[],[],sg',lo'⟩ ⟨#[],[]⟩ w' [d] [v] Fx':=by
     intro s hs a' w' ⟨g1,F2,h3⟩
     refine ⟨h3.df,?_⟩
     split at hs
     ·rename_i es s1 hr
      obtain ⟨F3,us,Fx3,h4,hrun⟩:=res_sim (P:=P) af.res fn.results.toList h3 hres hr
      simp only [List.nil_append] at h4
      have hul:=h4.ex.length
      have hrun2:(results fn a'.tmps).run P w'=.ok (tupV us) w':=by
       rw [results_eq]
       simp only [Array.mapM_eq_mapM_toList,Sem.run_bind,Sem.run_map,hrun,Result.andThen_ok,Sem.run_pure]
       match us with
       | [] => simp [tupV]
       | [u] => simp [tupV]
       | u :: u' :: us=>simp [tupV]
      have hx:∃ K,K=Fx3 ∧ g1.rv w' [tup es] [tupV us] K:=by
       refine ⟨_,rfl,?_⟩
       match es,us,hul with
       | [],[],_=>have:=RVs.t (im:=g1.im) (gl:=g1.gl) (w:=w') _ _ h4.ex .nil; simpa [tup,tupV] using this
       | [e],[u],_=>simpa [tup,tupV] using h4.ex
       | e :: e' :: es,u :: u' :: us,_=>have:=RVs.t (im:=g1.im) (gl:=g1.gl) (w:=w') _ _ h4.ex .nil; simpa [tup,tupV] using this
      obtain ⟨K,rfl,hx⟩:=hx
      have h5:=(h4.weaken _ _ K hx (fun b hb=>hb) h4.dj.ndx).leave
      split at hs
      ·rename_i hcut
       simp only [Bool.and_eq_true,decide_eq_true_eq] at hcut
       cases hs
       exact ⟨_,hrun2,_,_,_,h5.cut rfl rfl (fun _=>rfl) hcut.1 hcut.2 h0r⟩
      ·cases hs
       exact ⟨_,hrun2,_,_,_,h5⟩
     ·cases hs
    cases hev:evC E OO af.body ⟨fr,[],sg,sg.length⟩ with
    | none=>rw [hev] at he; simp [AM.fin] at he
    | some r =>
     rw [hev] at he
     refine code_sim hO hL hl hD af.body c _ r a0 w _ hbody hev ⟨_,_,h2⟩ ?_
     cases r with
     | n s=>intro a' w' h'; exact fin s he a' w' h'
     | r s=>intro a' w' h'; exact fin s he a' w' h'
     | x id s=>simp [AM.fin] at he
  ·cases hbody
 ·cases hc
theorem step_ok {P:Program} {E:En} {OO:Or} (hE:EnvOK P E) (hL:Lib P E.fbits E.frb E.meth) (hO:CallOK P OO) (hl:LoopOK P E OO) (hD:DrawOK P E OO):CallOK P ⟨stepCall E OO,OO.loop,OO.srt⟩:=by
 have sgr:∀ {w:World} {g:G} {F0 F sg ds vs Fx},Sm ⟨w,g.im,g.gl,sg,F0,0⟩ g F ⟨[],[],sg,sg.length⟩ ⟨#[],[]⟩ w ds vs Fx → ∀ (r:Nat) (c0:List D),sg[r]? = some c0 → D.nrs sg.length c0=true:=by
  intro w g F0 F sg ds vs Fx h r c0 hr
  rcases h.gb r c0 hr with ⟨b,_,_,_,_,_,_,_,_,_,_,k6⟩ | ⟨_,rfl,_⟩ | ⟨b,_,_,en,ck,es,_,_,_,rfl,k5⟩
  ·exact RVs.inScope (fun r b e=>h.glb r b e) k6
  ·rfl
  ·have:=RVs.inScope (fun r b e=>h.glb r b e) k5
   simpa [D.nrs,D.nr] using this
 have sgn : ∀ {w : World} {g : G} {F0 F sg ds vs Fx}, Sm ⟨w, g.im, g.gl, sg, F0, 0⟩ g F ⟨[], [], sg, sg.length⟩ ⟨#[], []⟩ w ds vs Fx → ∀ (nt : Nat) (a0 : Act), a0.defers = [] → a0.tmps.size = nt →
     Sm ⟨w,g.im,g.gl,sg,F0,nt⟩ g F ⟨[],[],sg,sg.length⟩ a0 w ds vs Fx:=by
  intro w g F0 F sg ds vs Fx h nt a0 hd hsz
  exact { h with df:=hd,nt:=hsz,sl:=by simp [look],ob:=by simp [look],gb:=h.gb,ex:=h.ex,lcd:=h.lcd,dslot:=h.dslot,dob:=h.dob,dgb:=h.dgb,dj:=h.dj,lt:=h.lt,imok:=h.imok,im0:=h.im0,gl0:=h.gl0,glb:=h.glb,gpl:=h.gpl,gl0b:=h.gl0b,sgl:=h.sgl,keep:=h.keep,os:=h.os,tape:=h.tape,out:=h.out,hs:=h.hs,refs:=h.refs }
 refine ⟨?_,?_,hO.2.2⟩
 ·intro f ds sg d sg' lo' hf he
  simp only [stepCall] at he
  split at he
  ·rename_i af haf
   have hc:=hE.1 f af haf
   rw [rid,if_pos hf] at hc
   split at he
   ·rename_i hnp
    rw [iniF_lt hf] at he
    simp only at he
    obtain ⟨h1,h2⟩:=step_core hL hO hl hD hc he
    refine ⟨h1,fun w g F0 F vs Fx h=>h2 w g F0 vs (by rw [← hnp]; exact h.ex.length.symm) (fun nt a0 hd hsz hv=>?_) (sgr h)⟩
    obtain ⟨F1,k⟩:=(sgn h nt a0 hd hsz).seats ds vs 0 (fun i v hi=>by rw [Nat.zero_add]; exact hv i v hi) (by simp [look])
    exact ⟨F1,by simpa using k⟩
   ·cases he
  ·simp only [if_true,Option.map_eq_some_iff] at he
   obtain ⟨d0,h1,h2⟩:=he
   cases h2
   obtain ⟨_,h3,h4⟩:=hE.2.1 f ds _ h1
   exact ⟨h3,fun w g F0 F vs Fx h=>h4 sg w g F0 F vs Fx h⟩
 ·intro f ds0 sg d sg' lo' hf he
  have hf':¬ f < Q0:=Nat.not_lt.2 hf
  simp only [stepCall] at he
  split at he
  ·rename_i af haf
   have hc:=hE.1 f af haf
   rw [rid,if_neg hf'] at hc
   split at he
   ·rename_i hnp
    split at he
    ·rename_i fr hfr
     obtain ⟨r,off,ds,cs,d0,rfl,hcs,hd0,rfl⟩:=iniF_inv hf' hfr
     obtain ⟨h1,h2⟩:=step_core hL hO hl hD hc he
     refine ⟨r,off,ds,rfl,⟨cs,d0,hcs,hd0⟩,h1,fun w g F0 F u vs Fx hu h=>h2 w g F0 (u :: vs) (by rw [← hnp]; simp [h.ex.length]) (fun nt a0 hd hsz hv=>?_) (sgr h)⟩
     obtain ⟨F1,k⟩:=(sgn h nt a0 hd hsz).seats ds vs 1 (fun i v hi=>by rw [Nat.add_comm]; exact hv (i + 1) v (by simpa using hi)) (by simp [look])
     have k:Sm ⟨w,g.im,g.gl,sg,F0,nt⟩ g F1 ⟨ini 1 ds,[],sg,sg.length⟩ a0 w [] [] [] := by simpa using k
     have h00:look 0 (ini 1 ds)=none:=look_ini (by omega)
     refine ⟨F1,{ df:=k.df,nt:=k.nt,sl:=?_,ob:=k.ob,gb:=k.gb,ex:=k.ex,lcd:=k.lcd,dslot:=?_,dob:=k.dob,dgb:=k.dgb,dj:=k.dj,lt:=k.lt,imok:=k.imok,im0:=k.im0,gl0:=k.gl0,glb:=k.glb,gpl:=k.gpl,gl0b:=k.gl0b,sgl:=k.sgl,keep:=k.keep,os:=k.os,tape:=k.tape,out:=k.out,hs:=k.hs,refs:=k.refs }⟩
     ·intro j x hj
      simp only [look] at hj
      split at hj
      ·rename_i e
       subst e
       cases hj
       exact ⟨u,hv 0 u rfl,k.dslot 0 h00,hu⟩
      ·obtain ⟨v,hv1,hr⟩:=k.sl j x hj
       refine ⟨v,hv1,?_⟩
       cases x with
       | v d=>exact hr
       | q q=>exact ⟨hr.1,hr.2.of_same (fun _ _ e=>e) (fun _ _ e=>e) (fun pl sz xs e=>⟨xs,e,rfl⟩)⟩
     ·intro j hj
      simp only [look] at hj
      split at hj
      ·cases hj
      ·exact k.dslot j hj
    ·cases he
   ·cases he
  ·exfalso
   split at he
   ·simp only [Option.map_eq_some_iff] at he
    obtain ⟨d0,h1,h2⟩:=he
    exact hf' (hE.2.1 f ds0 _ h1).1
   ·cases he
end Go.AM

namespace Go.AM
structure Or.le (A B:Or):Prop where
 call:∀ f ds sg lo v,A.call f ds sg lo=some v → B.call f ds sg lo=some v
 loop:∀ c s r,A.loop c s=some r → B.loop c s=some r
 srt:A.srt=B.srt
theorem evO_mono {A B:Or} (h:A.le B) {m o s dst x} (he:evO A m o s dst=some x):evO B m o s dst=some x:=by
 cases o <;> first
  | exact he
  | (simp only [evO,h.srt] at he ⊢; exact he)
  | (simp only [evO] at he ⊢
     split at he
     ·rename_i ds s1 h1
      simp only [Option.map_eq_some_iff] at he
      obtain ⟨v,h2,h3⟩:=he
      simp only [h1,h.call _ _ _ _ _ h2,Option.map_some,h3]
     ·cases he)
  | (simp only [evO] at he ⊢
     split at he
     ·rename_i ds s1 h1
      simp only [Option.map_eq_some_iff] at he
      obtain ⟨v,h2,h3⟩:=he
      obtain ⟨hn,lo,h4⟩:=callpv_inv h2
      simp only [h1,callpv_of hn (h.call _ _ _ _ _ h4),Option.map_some,h3]
     ·cases he)
  | (simp only [evO] at he ⊢
     split at he
     ·rename_i r0 off s1 h1
      split at he
      ·rename_i ds s2 h2
       simp only [Option.map_eq_some_iff] at he
       obtain ⟨v,h3,h4⟩:=he
       obtain ⟨lo,h5⟩:=callrv_inv h3
       simp only [h1,h2,callrv_of (h.call _ _ _ _ _ h5),Option.map_some,h4]
      ·cases he
     ·cases he)
  | (simp only [evO] at he ⊢
     split at he
     ·rename_i f cs s1 h1
      split at he
      ·rename_i ds s2 h2
       simp only [Option.map_eq_some_iff] at he
       obtain ⟨v,h3,h4⟩:=he
       simp only [h1,h2,h.call _ _ _ _ _ h3,Option.map_some,h4]
      ·cases he
     ·cases he)
  | (simp only [evO] at he ⊢
     split at he
     ·rename_i t v s1 h1
      split at he
      ·rename_i f hf
       split at he
       ·rename_i ds s2 h2
        simp only [Option.map_eq_some_iff] at he
        obtain ⟨v,h3,h4⟩:=he
        simp only [h1,hf,h2,h.call _ _ _ _ _ h3,Option.map_some,h4]
       ·cases he
      ·cases he
     ·cases he)
theorem evI_mono {E:En} {A B:Or} (h:A.le B) {i s x} (he:evI E A i s=some x):evI E B i s=some x:=by
 unfold evI at he ⊢
 split at he
 ·cases he
 ·rename_i hw
  simp only [Option.map_eq_some_iff] at he
  obtain ⟨y,h1,h2⟩:=he
  simp only [evO_mono h h1,Option.map_some,h2]
 ·exact he
theorem evOps_mono {E:En} {A B:Or} (h:A.le B):∀ {is s x},evOps E A is s=some x → evOps E B is s=some x
 | [],s,x,he=>he
 | i :: is,s,x,he=>by
  simp only [evOps] at he ⊢
  split at he
  ·rename_i s1 ac h1
   simp only [evI_mono h h1]
   exact evOps_mono h he
  ·cases he
theorem evOpsD_mono {E:En} {A B:Or} (h:A.le B):∀ {is acs s x},evOpsD E A is acs s=some x → evOpsD E B is acs s=some x
 | [],acs,s,x,he=>he
 | i :: is,acs,s,x,he=>by
  simp only [evOpsD] at he ⊢
  split at he
  ·rename_i s1 ac h1
   simp only [evI_mono h h1]
   split at he
   ·rename_i hc
    rw [if_pos hc]
    exact evOpsD_mono h he
   ·cases he
  ·cases he
theorem evC_mono {E:En} {A B:Or} (h:A.le B):∀ {c s r},evC E A c s=some r → evC E B c s=some r
 | .skip,s,r,he=>he
 | .reg gs is dr ls os,s,r,he=>by
  simp only [evC] at he ⊢
  split at he
  ·rename_i s1 h1
   split at he
   ·rename_i s2 h2
    cases dr with
    | false=>simp only [Bool.false_eq_true,if_false] at h2 ⊢; simp only [evOps_mono h h2]; exact he
    | true=>simp only [if_true] at h2 ⊢; simp only [evOpsD_mono h h2]; exact he
   ·cases he
  ·cases he
 | .seq c d,s,r,he=>by
  simp only [evC,sq] at he ⊢
  cases h1:evC E A c s with
  | none=>rw [h1] at he; simp at he
  | some r1 =>
   rw [h1] at he
   rw [evC_mono h h1]
   cases r1 with
   | n s1=>simp only at he ⊢; exact evC_mono h he
   | x id s1=>exact he
   | r s1=>exact he
 | .cond x c d,s,r,he=>by
  simp only [evC] at he ⊢
  split at he
  ·rename_i t ht
   cases t with
   | true=>simp only [if_true] at he ⊢; exact evC_mono h he
   | false=>simp only [Bool.false_eq_true,if_false] at he ⊢; exact evC_mono h he
  ·cases he
 | .blk n c,s,r,he=>by
  simp only [evC,bk] at he ⊢
  cases h1:evC E A c s with
  | none=>rw [h1] at he; simp at he
  | some r1=>rw [h1] at he; rw [evC_mono h h1]; exact he
 | .loop c,s,r,he=>by
  simp only [evC] at he ⊢
  exact h.loop _ _ _ he
 | .exit n,s,r,he=>he
 | .ret,s,r,he=>he
theorem fin_some {f n r x} (h:fin f n r=some x):∃ r',r=some r':=by
 cases r with
 | none=>simp [fin] at h
 | some r'=>exact ⟨r',rfl⟩
theorem stepCall_mono {E:En} {A B:Or} (h:A.le B) {f ds sg lo x} (he:stepCall E A f ds sg lo=some x):stepCall E B f ds sg lo=some x:=by
 unfold stepCall at he ⊢
 split at he
 ·rename_i af haf
  split at he
  ·rename_i hnp
   simp only [if_pos hnp]
   split at he
   ·rename_i fr hfr
    obtain ⟨r,hr⟩:=fin_some he
    rw [hr] at he
    rw [evC_mono h hr]; exact he
   ·cases he
  ·cases he
 ·exact he
theorem stepLoop_mono {E:En} {A B:Or} (h:A.le B) {c s x} (he:stepLoop E A c s=some x):stepLoop E B c s=some x:=by
 unfold stepLoop sq at he ⊢
 cases h1:evC E A c s with
 | none=>rw [h1] at he; simp at he
 | some r1 =>
  rw [h1] at he
  rw [evC_mono h h1]
  cases r1 with
  | n s1=>simp only at he ⊢; exact h.loop _ _ _ he
  | x id s1=>exact he
  | r s1=>exact he
theorem evK_succ (E:En):∀ n,(evK E n).le (evK E (n + 1))
 | 0=>⟨fun _ _ _ _ _ h=>by simp [evK] at h,fun _ _ _ h=>by simp [evK] at h,rfl⟩
 | n + 1=>⟨fun _ _ _ _ _ h=>stepCall_mono (evK_succ E n) h,fun _ _ _ h=>stepLoop_mono (evK_succ E n) h,rfl⟩
theorem evK_le (E:En) {n m:Nat} (h:n ≤ m):(evK E n).le (evK E m):=by
 induction h with
 | refl=>exact ⟨fun _ _ _ _ _ h=>h,fun _ _ _ h=>h,rfl⟩
 | step _ ih=>exact ⟨fun _ _ _ _ _ h=>(evK_succ E _).call _ _ _ _ _ (ih.call _ _ _ _ _ h),fun _ _ _ h=>(evK_succ E _).loop _ _ _ (ih.loop _ _ _ h),ih.srt.trans (evK_succ E _).srt⟩
open Classical in
noncomputable def lim (E:En):Or :=
 ⟨fun f ds sg lo => if h : ∃ v, ∃ n, (evK E n).call f ds sg lo = some v then some h.choose else none,
  fun c s=>if h:∃ v,∃ n,(evK E n).loop c s=some v then some h.choose else none,E.srt⟩
theorem lim_call {E:En} {f ds sg lo v}:(lim E).call f ds sg lo=some v ↔ ∃ n,(evK E n).call f ds sg lo=some v:=by
 unfold lim
 dsimp only
 constructor
 ·intro h
  split at h
  ·rename_i hx
   cases h
   exact hx.choose_spec
  ·cases h
 ·rintro ⟨n,hn⟩
  have hx:∃ v,∃ n,(evK E n).call f ds sg lo=some v:=⟨v,n,hn⟩
  rw [dif_pos hx]
  obtain ⟨m,hm⟩:=hx.choose_spec
  have h1:=(evK_le E (Nat.le_max_left n m)).call _ _ _ _ _ hn
  have h2:=(evK_le E (Nat.le_max_right n m)).call _ _ _ _ _ hm
  rw [h1] at h2
  exact h2.symm
theorem lim_loop {E:En} {c s v}:(lim E).loop c s=some v ↔ ∃ n,(evK E n).loop c s=some v:=by
 unfold lim
 dsimp only
 constructor
 ·intro h
  split at h
  ·rename_i hx
   cases h
   exact hx.choose_spec
  ·cases h
 ·rintro ⟨n,hn⟩
  have hx:∃ v,∃ n,(evK E n).loop c s=some v:=⟨v,n,hn⟩
  rw [dif_pos hx]
  obtain ⟨m,hm⟩:=hx.choose_spec
  have h1:=(evK_le E (Nat.le_max_left n m)).loop _ _ _ hn
  have h2:=(evK_le E (Nat.le_max_right n m)).loop _ _ _ hm
  rw [h1] at h2
  exact h2.symm
theorem evO_lim {E:En} {m o s dst x} (he:evO (lim E) m o s dst=some x):∃ n,evO (evK E n) m o s dst=some x:=by
 cases o <;> first
  | exact ⟨0,he⟩
  | (simp only [evO] at he ⊢
     split at he
     ·rename_i ds s1 h1
      simp only [Option.map_eq_some_iff] at he
      obtain ⟨v,h2,h3⟩:=he
      obtain ⟨n,hn⟩:=lim_call.1 h2
      exact ⟨n,by simp only [h1,hn,Option.map_some,h3]⟩
     ·cases he)
  | (simp only [evO] at he ⊢
     split at he
     ·rename_i ds s1 h1
      simp only [Option.map_eq_some_iff] at he
      obtain ⟨v,h2,h3⟩:=he
      obtain ⟨hn,lo,h4⟩:=callpv_inv h2
      obtain ⟨n,hn2⟩:=lim_call.1 h4
      exact ⟨n,by simp only [h1,callpv_of hn hn2,Option.map_some,h3]⟩
     ·cases he)
  | (simp only [evO] at he ⊢
     split at he
     ·rename_i r0 off s1 h1
      split at he
      ·rename_i ds s2 h2
       simp only [Option.map_eq_some_iff] at he
       obtain ⟨v,h3,h4⟩:=he
       obtain ⟨lo,h5⟩:=callrv_inv h3
       obtain ⟨n,hn2⟩:=lim_call.1 h5
       exact ⟨n,by simp only [h1,h2,callrv_of hn2,Option.map_some,h4]⟩
      ·cases he
     ·cases he)
  | (simp only [evO] at he ⊢
     split at he
     ·rename_i f cs s1 h1
      split at he
      ·rename_i ds s2 h2
       simp only [Option.map_eq_some_iff] at he
       obtain ⟨v,h3,h4⟩:=he
       obtain ⟨n,hn⟩:=lim_call.1 h3
       exact ⟨n,by simp only [h1,h2,hn,Option.map_some,h4]⟩
      ·cases he
     ·cases he)
  | (simp only [evO] at he ⊢
     split at he
     ·rename_i t v s1 h1
      split at he
      ·rename_i f hf
       split at he
       ·rename_i ds s2 h2
        simp only [Option.map_eq_some_iff] at he
        obtain ⟨v,h3,h4⟩:=he
        obtain ⟨n,hn⟩:=lim_call.1 h3
        exact ⟨n,by simp only [h1,hf,h2,hn,Option.map_some,h4]⟩
       ·cases he
      ·cases he
     ·cases he)
theorem evI_lim {E:En} {i s x} (he:evI E (lim E) i s=some x):∃ n,evI E (evK E n) i s=some x:=by
 unfold evI at he ⊢
 split at he
 ·cases he
 ·rename_i hw
  simp only [Option.map_eq_some_iff] at he
  obtain ⟨y,h1,h2⟩:=he
  obtain ⟨n,hn⟩:=evO_lim h1
  exact ⟨n,by simp only [hn,Option.map_some,h2]⟩
 ·exact ⟨0,he⟩
theorem evOps_lim {E:En}:∀ {is s x},evOps E (lim E) is s=some x → ∃ n,evOps E (evK E n) is s=some x
 | [],s,x,he=>⟨0,he⟩
 | i :: is,s,x,he=>by
  simp only [evOps] at he ⊢
  split at he
  ·rename_i s1 ac h1
   obtain ⟨n,hn⟩:=evI_lim h1
   obtain ⟨m,hm⟩:=evOps_lim he
   exact ⟨max n m,by simp only [evI_mono (evK_le E (Nat.le_max_left n m)) hn]; exact evOps_mono (evK_le E (Nat.le_max_right n m)) hm⟩
  ·cases he
theorem evOpsD_lim {E:En}:∀ {is acs s x},evOpsD E (lim E) is acs s=some x → ∃ n,evOpsD E (evK E n) is acs s=some x
 | [],acs,s,x,he=>⟨0,he⟩
 | i :: is,acs,s,x,he=>by
  simp only [evOpsD] at he ⊢
  split at he
  ·rename_i s1 ac h1
   split at he
   ·rename_i hc
    obtain ⟨n,hn⟩:=evI_lim h1
    obtain ⟨m,hm⟩:=evOpsD_lim he
    exact ⟨max n m,by simp only [evI_mono (evK_le E (Nat.le_max_left n m)) hn,if_pos hc]; exact evOpsD_mono (evK_le E (Nat.le_max_right n m)) hm⟩
   ·cases he
  ·cases he
theorem evC_lim {E:En}:∀ {c s r},evC E (lim E) c s=some r → ∃ n,evC E (evK E n) c s=some r
 | .skip,s,r,he=>⟨0,he⟩
 | .reg gs is dr ls os,s,r,he=>by
  simp only [evC] at he ⊢
  split at he
  ·rename_i s1 h1
   split at he
   ·rename_i s2 h2
    cases dr with
    | false =>
     simp only [Bool.false_eq_true,if_false] at h2 ⊢
     obtain ⟨n,hn⟩:=evOps_lim h2
     exact ⟨n,by simp only [h1,hn]; exact he⟩
    | true =>
     simp only [if_true] at h2 ⊢
     obtain ⟨n,hn⟩:=evOpsD_lim h2
     exact ⟨n,by simp only [h1,hn]; exact he⟩
   ·cases he
  ·cases he
 | .seq c d,s,r,he=>by
  simp only [evC,sq] at he ⊢
  cases h1:evC E (lim E) c s with
  | none=>rw [h1] at he; simp at he
  | some r1 =>
   rw [h1] at he
   obtain ⟨n,hn⟩:=evC_lim h1
   cases r1 with
   | n s1 =>
    simp only at he
    obtain ⟨m,hm⟩:=evC_lim he
    refine ⟨max n m,?_⟩
    rw [evC_mono (evK_le E (Nat.le_max_left n m)) hn]
    exact evC_mono (evK_le E (Nat.le_max_right n m)) hm
   | x id s1=>exact ⟨n,by rw [hn]; exact he⟩
   | r s1=>exact ⟨n,by rw [hn]; exact he⟩
 | .cond x c d,s,r,he=>by
  simp only [evC] at he ⊢
  split at he
  ·rename_i t ht
   cases t with
   | true =>
    simp only [if_true] at he
    obtain ⟨n,hn⟩:=evC_lim he
    exact ⟨n,by simp only [ht,if_true]; exact hn⟩
   | false =>
    simp only [Bool.false_eq_true,if_false] at he
    obtain ⟨n,hn⟩:=evC_lim he
    exact ⟨n,by simp only [ht,Bool.false_eq_true,if_false]; exact hn⟩
  ·cases he
 | .blk n c,s,r,he=>by
  simp only [evC,bk] at he ⊢
  cases h1:evC E (lim E) c s with
  | none=>rw [h1] at he; simp at he
  | some r1 =>
   rw [h1] at he
   obtain ⟨n,hn⟩:=evC_lim h1
   exact ⟨n,by rw [hn]; exact he⟩
 | .loop c,s,r,he=>by
  simp only [evC] at he ⊢
  exact lim_loop.1 he
 | .exit n,s,r,he=>⟨0,he⟩
 | .ret,s,r,he=>⟨0,he⟩
theorem call_of {E:En} {f ds sg lo x} (he:stepCall E (lim E) f ds sg lo=some x):(lim E).call f ds sg lo=some x:=by
 have he0:=he
 unfold stepCall at he
 split at he
 ·rename_i af haf
  split at he
  ·rename_i hnp
   split at he
   ·rename_i fr hfr
    obtain ⟨r,hr⟩:=fin_some he
    obtain ⟨n,hn⟩:=evC_lim hr
    refine lim_call.2 ⟨n + 1,?_⟩
    show stepCall E (evK E n) f ds sg lo=some x
    unfold stepCall
    simp only [haf,if_pos hnp,hfr,hn]
    rw [hr] at he; exact he
   ·cases he
  ·cases he
 ·rename_i hn
  refine lim_call.2 ⟨1,?_⟩
  show stepCall E (evK E 0) f ds sg lo=some x
  unfold stepCall
  simp only [hn]
  exact he
theorem loop_of {E:En} {c s x} (he:stepLoop E (lim E) c s=some x):(lim E).loop c s=some x:=by
 unfold stepLoop sq at he
 cases h1:evC E (lim E) c s with
 | none=>rw [h1] at he; simp at he
 | some r1 =>
  rw [h1] at he
  obtain ⟨n,hn⟩:=evC_lim h1
  cases r1 with
  | n s1 =>
   simp only at he
   obtain ⟨m,hm⟩:=lim_loop.1 he
   refine lim_loop.2 ⟨max n m + 1,?_⟩
   show stepLoop E (evK E (max n m)) c s=some x
   unfold stepLoop sq
   rw [evC_mono (evK_le E (Nat.le_max_left n m)) hn]
   exact (evK_le E (Nat.le_max_right n m)).loop _ _ _ hm
  | x id s1=>refine lim_loop.2 ⟨n + 1,?_⟩; show stepLoop E (evK E n) c s=_; unfold stepLoop sq; rw [hn]; exact he
  | r s1=>refine lim_loop.2 ⟨n + 1,?_⟩; show stepLoop E (evK E n) c s=_; unfold stepLoop sq; rw [hn]; exact he
theorem evK_ok {P : Program} {E : En} (hE : EnvOK P E) (hL : Lib P E.fbits E.frb E.meth) (hD : ∀ OO, CallOK P OO → DrawOK P E OO) :
    ∀ n,CallOK P (evK E n) ∧ (∀ (B:Ba) (c:C) (x:Code) (s:St) (r:Rs) (a:Act) (w:World) (Q:Exit → Act → World → Prop),chkCode P E.fbits E.frb B.nt c x=true → (evK E n).loop c s=some r → Sim B s a w → RsQ B r Q → Code.rounds P x Q n a w)
 | 0=>⟨⟨fun _ _ _ _ _ _ _ h=>by simp [evK] at h,fun _ _ _ _ _ _ _ h=>by simp [evK] at h,hE.2.2⟩,fun _ _ _ _ _ _ _ _ _ h=>by simp [evK] at h⟩
 | n + 1=>by
  obtain ⟨h1,h2⟩:=evK_ok hE hL hD n
  have hl:LoopOK P E (evK E n):=fun B c x s r a w Q hc he h hq=>wp_loop_rounds n (h2 B c x s r a w Q hc he h hq)
  refine ⟨?_,?_⟩
  ·have:=step_ok hE hL h1 hl (hD _ h1)
   exact ⟨fun f ds sg d sg' lo' hf he=>this.1 f ds sg d sg' lo' hf he,fun f ds sg d sg' lo' hf he=>this.2.1 f ds sg d sg' lo' hf he,hE.2.2⟩
  ·intro B c x s r a w Q hc he h hq
   have he':stepLoop E (evK E n) c s=some r:=he
   unfold stepLoop sq at he'
   rw [rounds_succ]
   cases h3:evC E (evK E n) c s with
   | none=>rw [h3] at he'; simp at he'
   | some r1 =>
    rw [h3] at he'
    refine code_sim h1 hL hl (hD _ h1) c x s r1 a w _ hc h3 h ?_
    cases r1 with
    | n s1 =>
     simp only at he'
     intro a' w' h'
     exact h2 B c x s1 r a' w' Q hc he' h' hq
    | x id s1=>simp only at he'; cases he'; exact hq
    | r s1=>simp only at he'; cases he'; exact hq
theorem lim_ok {P:Program} {E:En} (hE:EnvOK P E) (hL:Lib P E.fbits E.frb E.meth) (hD:∀ OO,CallOK P OO → DrawOK P E OO):CallOK P (lim E):=by
 refine ⟨?_,?_,hE.2.2⟩
 ·intro f ds sg d sg' lo' hf h
  obtain ⟨n,hn⟩:=lim_call.1 h
  exact (evK_ok hE hL hD n).1.1 f ds sg d sg' lo' hf hn
 ·intro f ds sg d sg' lo' hf h
  obtain ⟨n,hn⟩:=lim_call.1 h
  exact (evK_ok hE hL hD n).1.2.1 f ds sg d sg' lo' hf hn
end Go.AM

namespace Go.AM
def imW (w:World) (b j:Nat):Option Value:=w.cell? ⟨b,j,none⟩
theorem top {P : Program} {OO : Or} (hO : CallOK P OO) {f ds vs d sg' lo'} (hf : f < Q0) (hc : OO.call f ds [] 0 = some (d, sg', lo')) (w : World) (hr : RVs (imW w) (fun _ => none) w ds vs []) (C : Value → Prop) (hC : ∀ im gl w' v F, RVs im gl w' [d] [v] F → C v) :
    Calls P f vs.toArray w (fun e w'=>(∃ v,e=.returned v ∧ C v) ∧ RowKit.Below w.heap.size w w'):=by
 obtain ⟨_,hcalls⟩:=hO.1 f ds [] d sg' lo' hf (by simpa using hc)
 have h0:Sm ⟨w,imW w,fun _=>none,[],[],0⟩ ⟨imW w,fun _=>none,fun _=>none,fun _=>none⟩ (fun _=>[]) ⟨[],[],[],([] : List (List D)).length⟩ ⟨#[],[]⟩ w ds vs [] :=
  {df:=rfl,nt:=rfl,sl:=by simp [look],ob:=by simp [look],gb:=by simp,ex:=hr,lcd:=by simp,dslot:=fun _ _=>rfl,dob:=fun _ _=>rfl,dgb:=fun _ _=>rfl,dj:=⟨by simp,by simp,fun _=>List.nodup_nil,List.nodup_nil⟩,
   lt:=(by
    intro b hb
    rcases hb with hb | ⟨x,hb⟩ <;> cases hb),imok:=fun b j v e=>e,im0:=fun _ _ _ e=>e,gl0:=fun _ _ e=>e,glb:=by simp,gpl:=by simp,gl0b:=by simp,sgl:=Nat.le_refl _,keep:=fun _ _ _=>⟨rfl,fun _=>rfl⟩,os:=rfl,tape:=rfl,out:=rfl,hs:=Nat.le_refl _,refs:=by simp }
 refine (hcalls w ⟨imW w,fun _=>none,fun _=>none,fun _=>none⟩ [] (fun _=>[]) vs [] h0).mono ?_
 intro e w' he
 cases e with
 | returned v =>
  obtain ⟨g',F',Fx',k⟩:=he
  refine ⟨⟨v,rfl,hC _ _ _ _ _ k.ex⟩,?_⟩
  exact ⟨k.os,k.tape,k.out,k.hs,fun b hb=>(k.keep b hb (by simp)).1⟩
 | panicked _=>exact he.elim
 | outgrown=>exact he.elim
end Go.AM

namespace Go.AM
structure Up where
 fr:Nat → Option R → Option R
 ob:Nat → Option (List D) → Option (List D)
 sg:List (List D) → List (List D)
 lo:Nat → Nat
structure Ap (u:Up) (s t:St):Prop where
 fr:∀ k,look k t.fr=u.fr k (look k s.fr)
 ob:∀ k,look k t.ob=u.ob k (look k s.ob)
 sg:t.sg=u.sg s.sg
 lo:t.lo=u.lo s.lo
def Ac.fg:Ac → Q → Bool
 | .wl k _ _=>Q.bor k
 | .wk k=>Q.ofk k
 | .wg .. | .cl _=>Q.gl
 | .clx r=>Q.glx r
 | _=>fun _=>false
def FrOK (K:List Nat) (g:Q → Bool) (u:Up):Prop :=
 ∀ k,(∀ y,u.fr k y=y.map (fgt g)) ∨ (k ∈ K ∧ ∃ c,(∀ y,u.fr k y=c) ∧ ∀ g',c.map (fgt g')=c)
def Ac.wob:Ac → Option Nat
 | .wl k _ _ | .wk k | .we k=>some k
 | _=>none
def Ac.wsg:Ac → Bool
 | .wg .. | .weg | .ag | .cl false=>true
 | _=>false
structure ObOK (ac:Ac) (u:Up):Prop where
 ob:∀ k,ac.wob ≠ some k → ∀ y,u.ob k y=y
 sg:ac.wsg=false → (∀ x,u.sg x=x) ∧ ∀ x,u.lo x=x
 wl:∀ k off n,ac=.wl k off n → ∃ ds,ds.length=n ∧ ∀ y,u.ob k y=y.map (fun cs=>ovr cs off ds)
 wk:∀ k,(ac=.wk k ∨ ac=.we k) → ∃ z,∀ y,u.ob k y=some z
 wg:∀ r off n,ac=.wg r off n → (∃ ds,ds.length=n ∧ ∀ x,u.sg x=x.modify r (fun cs=>ovr cs off ds)) ∧ ((∀ x,u.lo x=x) ∨ ∃ m,∀ x,u.lo x=min x m)
def Shp (d e:D):Prop:=d=e ∨ ∃ sz xs ys,d=.l .x sz xs ∧ e=.l .x sz ys ∧ xs.length=ys.length
theorem Shp.symm {d e:D} (h:Shp d e):Shp e d:=by
 rcases h with rfl | ⟨sz,xs,ys,rfl,rfl,h⟩
 ·exact .inl rfl
 ·exact .inr ⟨sz,ys,xs,rfl,rfl,h.symm⟩
def Shps (cs ds:List D):Prop:=cs.length=ds.length ∧ ∀ (j:Nat) (c d:D),cs[j]? = some c → ds[j]? = some d → Shp c d
theorem Shps.symm {cs ds:List D} (h:Shps cs ds):Shps ds cs:=⟨h.1.symm,fun j c d e e'=>(h.2 j d c e' e).symm⟩
theorem Shps.refl (cs:List D):Shps cs cs:=⟨rfl,fun j c d e e'=>.inl (by rw [e] at e'; exact Option.some.inj e')⟩
def Sh (ac:Ac) (s t:St):Prop :=
 (∀ k,ac=.we k → ∃ cs ds,look k s.ob=some cs ∧ look k t.ob=some ds ∧ Shps cs ds) ∧
 (ac=.weg → s.sg.length=t.sg.length ∧ ∀ (r:Nat) (cs ds:List D),s.sg[r]? = some cs → t.sg[r]? = some ds → Shps cs ds)
def rng (cs ds:List D) (off n:Nat):Prop:=ds.length=cs.length ∧ ∀ j,off ≤ j → j < off + n → ds[j]? = cs[j]?
theorem rng.symm {cs ds off n} (h:rng cs ds off n):rng ds cs off n:=⟨h.1.symm,fun j a b=>(h.2 j a b).symm⟩
def View (ac:Ac) (s t:St):Prop:=match ac with
 | .no | .wk _=>True
 | .rl k off n | .wl k off n=>∀ cs,look k s.ob=some cs → ∃ ds,look k t.ob=some ds ∧ rng cs ds off n
 | .rb k=>∀ cs,look k s.ob=some cs → ∃ ds,look k t.ob=some ds ∧ Shps cs ds
 | .re k | .we k=>look k t.ob=look k s.ob
 | .rg r off n | .wg r off n=>∀ cs,s.sg[r]? = some cs → ∃ ds,t.sg[r]? = some ds ∧ rng cs ds off n
 | .rgb _=>∀ (r:Nat) (cs:List D),s.sg[r]? = some cs → ∃ ds,t.sg[r]? = some ds ∧ Shps cs ds
 | .reg _ | .weg | .ag | .cl _=>t.sg=s.sg ∧ t.lo=s.lo
 | .clx r=>t.sg.set r [] = s.sg.set r []
theorem ovr_len {cs ds:List D} {off:Nat} (h:off + ds.length ≤ cs.length):(ovr cs off ds).length=cs.length:=by simp [ovr]; omega
theorem ovr_get {cs ds:List D} {off j:Nat} (h:j < off ∨ off + ds.length ≤ j) (hl:off + ds.length ≤ cs.length):(ovr cs off ds)[j]? = cs[j]? := by
 unfold ovr
 rcases h with h | h
 ·rw [List.append_assoc,List.getElem?_append_left (by simp; omega),List.getElem?_take_of_lt h]
 ·rw [List.getElem?_append_right (by simp; omega),List.getElem?_drop]
  congr 1; simp; omega
def Ac.ok2 (a b:Ac):Prop:=a.ok b=true ∨ b.ok a=true
theorem rng_ovr {cs ds:List D} {off n o m:Nat} (hl:ds.length=n) (hb:off + n ≤ cs.length) (h:o + m ≤ off ∨ off + n ≤ o):rng cs (ovr cs off ds) o m :=
 ⟨ovr_len (by omega),fun j a b=>ovr_get (by omega) (by omega)⟩
def Pre (ac:Ac) (s:St):Prop:=match ac with
 | .wl k off n=>∃ cs,look k s.ob=some cs ∧ off + n ≤ cs.length
 | .wg r off n=>∃ cs,s.sg[r]? = some cs ∧ off + n ≤ cs.length
 | _=>True
set_option maxHeartbeats 4000000 in
theorem view_of {ac ac':Ac} (hok:ac.ok2 ac') {u s t} (h:ObOK ac u) (ha:Ap u s t) (hs:Sh ac s t) (hp:Pre ac s):View ac' s t ∧ View ac' t s:=by
 have same:∀ k,ac.wob ≠ some k → look k t.ob=look k s.ob:=fun k hk=>(ha.ob k).trans (h.ob k hk _)
 have glob:ac.wsg=false → t.sg=s.sg ∧ t.lo=s.lo:=fun hw=>⟨ha.sg.trans ((h.sg hw).1 _),ha.lo.trans ((h.sg hw).2 _)⟩
 have rngr:∀ (cs:List D) o m,rng cs cs o m:=fun cs o m=>⟨rfl,fun _ _ _=>rfl⟩
 have loc : ∀ k o m, (ac.wob = some k → (∃ off n, ac = .wl k off n ∧ (o + m ≤ off ∨ off + n ≤ o)) ∨ (ac = .we k ∧ m = 0)) →
     (∀ cs,look k s.ob=some cs → ∃ ds,look k t.ob=some ds ∧ rng cs ds o m) ∧ (∀ cs,look k t.ob=some cs → ∃ ds,look k s.ob=some ds ∧ rng cs ds o m):=by
  intro k o m hk
  by_cases hw:ac.wob=some k
  ·rcases hk hw with ⟨off,n,rfl,hd⟩ | ⟨rfl,rfl⟩
   ·obtain ⟨ds,hl,hu⟩:=h.wl k off n rfl
    obtain ⟨cs,hcs,hb⟩:=hp
    have ht:look k t.ob=some (ovr cs off ds):=by rw [ha.ob,hu,hcs]; rfl
    have hr:=rng_ovr (o:=o) (m:=m) hl hb hd
    refine ⟨fun cs' e=>?_,fun cs' e=>?_⟩
    ·rw [hcs] at e; cases e; exact ⟨_,ht,hr⟩
    ·rw [ht] at e; cases e; exact ⟨_,hcs,hr.symm⟩
   ·obtain ⟨cs,ds,h1,h2,h3⟩:=hs.1 k rfl
    refine ⟨fun cs' e=>?_,fun cs' e=>?_⟩
    ·rw [h1] at e; cases e; exact ⟨_,h2,h3.1.symm,fun j a b=>absurd b (by omega)⟩
    ·rw [h2] at e; cases e; exact ⟨_,h1,h3.1,fun j a b=>absurd b (by omega)⟩
  ·have e:=same k hw
   exact ⟨fun cs hcs=>⟨cs,e.trans hcs,rngr _ _ _⟩,fun cs hcs=>⟨cs,e.symm.trans hcs,rngr _ _ _⟩⟩
 have gl : ∀ r o m, (ac.wsg = true → ∃ r' off n, ac = .wg r' off n ∧ (r' ≠ r ∨ o + m ≤ off ∨ off + n ≤ o)) →
     (∀ cs,s.sg[r]? = some cs → ∃ ds,t.sg[r]? = some ds ∧ rng cs ds o m) ∧ (∀ cs,t.sg[r]? = some cs → ∃ ds,s.sg[r]? = some ds ∧ rng cs ds o m):=by
  intro r o m hk
  cases hw:ac.wsg with
  | true =>
   obtain ⟨r',off,n,rfl,hd⟩:=hk hw
   obtain ⟨⟨ds,hl,hu⟩,_⟩:=h.wg r' off n rfl
   obtain ⟨cs,hcs,hb⟩:=hp
   have ht:t.sg=s.sg.modify r' (fun cs=>ovr cs off ds):=by rw [ha.sg,hu]
   by_cases e:r'=r
   ·subst e
    have hg:t.sg[r']? = some (ovr cs off ds):=by rw [ht,List.getElem?_modify_eq,hcs]; rfl
    have hr:=rng_ovr (o:=o) (m:=m) hl hb (hd.resolve_left (by simp))
    refine ⟨fun cs' e=>?_,fun cs' e=>?_⟩
    ·rw [hcs] at e; cases e; exact ⟨_,hg,hr⟩
    ·rw [hg] at e; cases e; exact ⟨_,hcs,hr.symm⟩
   ·have hg:t.sg[r]? = s.sg[r]? := by rw [ht,List.getElem?_modify_ne _ _ e]
    exact ⟨fun cs hcs=>⟨cs,hg.trans hcs,rngr _ _ _⟩,fun cs hcs=>⟨cs,hg.symm.trans hcs,rngr _ _ _⟩⟩
  | false =>
   have hg:t.sg[r]? = s.sg[r]? := by rw [(glob hw).1]
   exact ⟨fun cs hcs=>⟨cs,hg.trans hcs,rngr _ _ _⟩,fun cs hcs=>⟨cs,hg.symm.trans hcs,rngr _ _ _⟩⟩
 cases ac' with
 | no=>exact ⟨trivial,trivial⟩
 | wk k=>exact ⟨trivial,trivial⟩
 | rl k o m =>
  refine loc k o m (fun hw=>?_)
  cases ac <;> simp [Ac.wob] at hw <;> subst hw <;> simp [Ac.ok2,Ac.ok] at hok ⊢ <;> (first | omega | exact ⟨_,_,⟨rfl,rfl⟩,by omega⟩)
 | wl k o m =>
  refine loc k o m (fun hw=>?_)
  cases ac <;> simp [Ac.wob] at hw <;> subst hw <;> simp [Ac.ok2,Ac.ok] at hok ⊢ <;> (first | omega | exact ⟨_,_,⟨rfl,rfl⟩,by omega⟩)
 | rb k =>
  by_cases hw:ac.wob=some k
  ·cases ac <;> simp [Ac.wob] at hw <;> subst hw <;> simp [Ac.ok2,Ac.ok] at hok
   obtain ⟨cs,ds,h1,h2,h3⟩:=hs.1 _ rfl
   refine ⟨fun cs' e=>?_,fun cs' e=>?_⟩
   ·rw [h1] at e; cases e; exact ⟨_,h2,h3⟩
   ·rw [h2] at e; cases e; exact ⟨_,h1,h3.symm⟩
  ·have e:=same k hw
   exact ⟨fun cs hcs=>⟨cs,e.trans hcs,.refl _⟩,fun cs hcs=>⟨cs,e.symm.trans hcs,.refl _⟩⟩
 | re k =>
  have e:=same k (fun hw=>by cases ac <;> simp [Ac.wob] at hw <;> subst hw <;> simp [Ac.ok2,Ac.ok] at hok)
  exact ⟨e,e.symm⟩
 | we k =>
  have e:=same k (fun hw=>by cases ac <;> simp [Ac.wob] at hw <;> subst hw <;> simp [Ac.ok2,Ac.ok] at hok)
  exact ⟨e,e.symm⟩
 | rg r o m =>
  refine gl r o m (fun hw=>?_)
  cases ac <;> simp [Ac.wsg] at hw <;> simp [Ac.ok2,Ac.ok] at hok ⊢ <;> (try (rename_i b; cases b <;> simp_all; done)) <;> (first | omega | exact ⟨_,_,_,⟨rfl,rfl,rfl⟩,by omega⟩)
 | wg r o m =>
  refine gl r o m (fun hw=>?_)
  cases ac <;> simp [Ac.wsg] at hw <;> simp [Ac.ok2,Ac.ok] at hok ⊢ <;> (try (rename_i b; cases b <;> simp_all; done)) <;> (first | omega | exact ⟨_,_,_,⟨rfl,rfl,rfl⟩,by omega⟩)
 | rgb r0 =>
  by_cases hw:ac=.weg
  ·subst hw
   obtain ⟨hl,h3⟩:=hs.2 rfl
   refine ⟨fun r cs e=>?_,fun r cs e=>?_⟩
   ·have hlt:r < t.sg.length:=by rw [← hl]; exact (List.getElem?_eq_some_iff.1 e).1
    exact ⟨_,List.getElem?_eq_getElem hlt,h3 r _ _ e (List.getElem?_eq_getElem hlt)⟩
   ·have hlt:r < s.sg.length:=by rw [hl]; exact (List.getElem?_eq_some_iff.1 e).1
    exact ⟨_,List.getElem?_eq_getElem hlt,(h3 r _ _ (List.getElem?_eq_getElem hlt) e).symm⟩
  ·have e:=glob (by cases ac <;> simp [Ac.ok2,Ac.ok] at hok hw ⊢ <;> rfl)
   refine ⟨fun r cs hc=>⟨cs,by rw [e.1]; exact hc,.refl _⟩,fun r cs hc=>⟨cs,by rw [← e.1]; exact hc,.refl _⟩⟩
 | reg r0 =>
  have e:=glob (by cases ac <;> simp [Ac.ok2,Ac.ok] at hok ⊢ <;> rfl)
  exact ⟨e,e.1.symm,e.2.symm⟩
 | weg =>
  have e:=glob (by cases ac <;> simp [Ac.ok2,Ac.ok] at hok ⊢ <;> rfl)
  exact ⟨e,e.1.symm,e.2.symm⟩
 | ag =>
  have e:=glob (by cases ac <;> simp [Ac.ok2,Ac.ok] at hok ⊢ <;> rfl)
  exact ⟨e,e.1.symm,e.2.symm⟩
 | cl b =>
  have e:=glob (by cases ac <;> simp [Ac.ok2,Ac.ok] at hok ⊢ <;> rfl)
  exact ⟨e,e.1.symm,e.2.symm⟩
 | clx r0 =>
  cases hw:ac.wsg with
  | false=>have e:=glob hw; exact ⟨by rw [View,e.1],by rw [View,e.1]⟩
  | true =>
   have hwg:∃ off n,ac=.wg r0 off n:=by
    cases ac <;> simp [Ac.wsg] at hw <;> simp [Ac.ok2,Ac.ok] at hok ⊢
    ·exact hok.elim id Eq.symm
    ·rename_i b; cases b <;> simp_all
   obtain ⟨off,n,rfl⟩:=hwg
   obtain ⟨⟨ds,hl,hu⟩,_⟩:=h.wg r0 off n rfl
   have ht:t.sg.set r0 [] = s.sg.set r0 [] := by
    rw [ha.sg,hu]
    apply List.ext_getElem?
    intro j
    by_cases ej:r0=j
    ·subst ej
     rw [List.getElem?_set_self',List.getElem?_set_self',List.getElem?_modify_eq]
     cases s.sg[r0]? <;> rfl
    ·rw [List.getElem?_set_ne ej,List.getElem?_set_ne ej,List.getElem?_modify_ne _ _ ej]
   exact ⟨ht,ht.symm⟩
def Cov (ac:Ac) (x:Q):Prop:=∀ ac',ac.ok2 ac' → ac'.fg x=false
def Agr (L:List Nat) (ac:Ac) (s t:St):Prop :=
 ∀ k ∈ L,look k s.fr=some (.v .w) ∨ look k t.fr=look k s.fr ∨ ∃ x,look k s.fr=some (.q x) ∧ ¬ Cov ac x
def AgV (L:List Nat) (s t:St):Prop :=
 ∀ k ∈ L,look k s.fr=some (.v .w) ∨ look k t.fr=look k s.fr ∨ ∃ x,look k s.fr=some (.q x)
theorem Agr.agv {L ac s t} (h:Agr L ac s t):AgV L s t:=fun k hk=>(h k hk).imp id (fun h=>h.imp id (fun ⟨x,h,_⟩=>⟨x,h⟩))
theorem AgV.sub {L L' s t} (h:AgV L s t) (hs:∀ k ∈ L',k ∈ L):AgV L' s t:=fun k hk=>h k (hs k hk)
theorem Agr.sub {L L' ac s t} (h:Agr L ac s t) (hs:∀ k ∈ L',k ∈ L):Agr L' ac s t:=fun k hk=>h k (hs k hk)
def drps:List Nat → List (Nat × R) → List (Nat × R)
 | [],l=>l
 | k :: ks,l=>drps ks (drp k l)
theorem look_drps (j:Nat):∀ (ks:List Nat) (l:List (Nat × R)),look j (drps ks l)=if j ∈ ks then none else look j l
 | [],l=>by simp [drps]
 | k :: ks,l=>by
  simp only [drps,look_drps j ks,look_drp,List.mem_cons]
  by_cases h:j=k <;> by_cases h':j ∈ ks <;> simp [h,h']
theorem drps_append:∀ (a b:List Nat) (l:List (Nat × R)),drps (a ++ b) l=drps b (drps a l)
 | [],b,l=>rfl
 | k :: a,b,l=>drps_append a b (drp k l)
def Rd {α : Type} (L K:List Nat) (f:St → Option (α × St)):Prop :=
 ∀ s a s1,f s=some (a,s1) → ∃ ks,(∀ k ∈ ks,k ∈ K) ∧ s1={ s with fr:=drps ks s.fr } ∧ ∀ t,AgV L s t → f t=some (a,{ t with fr:=drps ks t.fr })
theorem AgV.drops {L s t ks} (h:AgV L s t):AgV L { s with fr:=drps ks s.fr } { t with fr:=drps ks t.fr }:=by
 intro k hk
 simp only [look_drps]
 by_cases e:k ∈ ks
 ·simp [e]
 ·simpa [e] using h k hk
theorem Rd.bind {α β : Type} {L K L' K' : List Nat} {f : St → Option (α × St)} {g : α → St → Option (β × St)} (hf : Rd L K f) (hg : ∀ a, Rd L' K' (g a)) :
    Rd (L ++ L') (K ++ K') (fun s=>match f s with | some (a,s1)=>g a s1 | none=>none):=by
 intro s b s2 h
 dsimp only at h
 split at h
 ·rename_i a s1 h1
  obtain ⟨ks,hk,rfl,ht⟩:=hf s a s1 h1
  obtain ⟨ks',hk',rfl,ht'⟩:=hg a _ b s2 h
  refine ⟨ks ++ ks',?_,by simp [drps_append],?_⟩
  ·intro k hk2
   rcases List.mem_append.1 hk2 with h | h
   ·exact List.mem_append_left _ (hk k h)
   ·exact List.mem_append_right _ (hk' k h)
  ·intro t hag
   have h1:=ht t (hag.sub (fun k hk=>List.mem_append_left _ hk))
   simp only [h1]
   rw [ht' _ ((hag.sub (fun k hk=>List.mem_append_right _ hk)).drops)]
   simp [drps_append]
 ·cases h
theorem Rd.pure {α : Type} (a:α):Rd [] [] (fun s=>some (a,s)):=fun s b s1 h=>by
 cases h; exact ⟨[],by simp,rfl,fun t _=>rfl⟩
theorem Rd.none {α : Type} {L K:List Nat}:Rd (α := α) L K (fun s=>Option.none):=fun s b s1 h=>by cases h
theorem Rd.map {α β : Type} {L K : List Nat} {f : St → Option (α × St)} (hf : Rd L K f) (g : α → Option β) :
    Rd L K (fun s=>match f s with | some (a,s1)=>(g a).map fun b=>(b,s1) | .none=>.none):=by
 intro s b s2 h
 dsimp only at h
 split at h
 ·rename_i a s1 h1
  obtain ⟨ks,hk,rfl,ht⟩:=hf s a s1 h1
  simp only [Option.map_eq_some_iff] at h
  obtain ⟨b',hb,e⟩:=h
  cases e
  exact ⟨ks,hk,rfl,fun t hag=>by simp only [ht t hag,hb,Option.map_some]⟩
 ·cases h
theorem Rd.congr {α : Type} {L K:List Nat} {f g:St → Option (α × St)} (hf:Rd L K f) (h:∀ s,g s=f s):Rd L K g:=by
 have:g=f:=funext h
 rw [this]; exact hf
theorem Rd.mono {α : Type} {L K L' K':List Nat} {f:St → Option (α × St)} (hf:Rd L K f) (hL:∀ k ∈ L,k ∈ L') (hK:∀ k ∈ K,k ∈ K'):Rd L' K' f:=by
 intro s a s1 h
 obtain ⟨ks,h1,h2,h3⟩:=hf s a s1 h
 exact ⟨ks,fun k hk=>hK k (h1 k hk),h2,fun t ht=>h3 t (ht.sub hL)⟩
theorem rd_rxv (x:X):Rd (slotX x) (tkX x) (rxv x):=by
 intro s d s1 h
 have h:=rxv_some h
 cases x with
 | c d'=>simp only [rx] at h; cases h; exact ⟨[],by simp,rfl,fun t _=>rfl⟩
 | t n =>
  simp only [rx] at h
  split at h
  ·rename_i d0 hl
   split at h
   ·rename_i d1 hc
    cases h
    refine ⟨[],by simp,rfl,fun t hag=>?_⟩
    rcases hag n (by simp [slotX]) with h | h | ⟨x,h⟩
    ·rw [hl] at h; cases h; simp [D.cp] at hc
    ·simp only [rxv,rx,h,hl,hc,drps]
    ·rw [hl] at h; cases h
   ·cases h
  ·cases h
  ·cases h
 | k n =>
  simp only [rx] at h
  split at h
  ·cases h
  ·rename_i r hne hl
   cases h
   refine ⟨[n],by simp [tkX],rfl,fun t hag=>?_⟩
   rcases hag n (by simp [slotX]) with h | h | ⟨x,h⟩
   ·rw [hl] at h; exact absurd (Option.some.inj h) hne
   ·simp only [rxv,rx,h,hl,drps]
   ·rw [hl] at h; cases h
  ·cases h
theorem rd_rxs:∀ (xs:List X),Rd (xs.flatMap slotX) (xs.flatMap tkX) (rxs xs)
 | [] => (Rd.pure []).congr (fun s=>rfl)
 | x :: xs=>by
  have h:=(rd_rxv x).bind (fun d=>(rd_rxs xs).map (fun ds=>some (d :: ds)))
  refine (h.mono (by simp) (by simp)).congr (fun s=>?_)
  simp only [rxs]
  cases rxv x s with
  | none=>rfl
  | some p =>
   obtain ⟨d,s1⟩:=p
   simp only
   cases rxs xs s1 with
   | none=>rfl
   | some q=>rfl
theorem rd_rxo:∀ (x:Option X),Rd (slotO? x) (match x with | none=>[] | some x=>tkX x) (evO.rxo x)
 | none=>(Rd.pure Option.none).congr (fun s=>rfl)
 | some x=>by
  refine ((rd_rxv x).map (fun d=>some (some d))).congr (fun s=>?_)
  simp only [evO.rxo]
  cases rxv x s <;> rfl
def Loc (L K:List Nat) (F:St → Option (R × St × Ac)):Prop :=
 ∀ s r s1 ac,F s=some (r,s1,ac) → (∀ x,r=.q x → Cov ac x) ∧ Pre ac s ∧ ∃ u,FrOK K ac.fg u ∧ ObOK ac u ∧ Ap u s s1 ∧ Sh ac s s1 ∧
  ∀ t,Agr L ac s t → View ac s t → ∃ t1,F t=some (r,t1,ac) ∧ Ap u t t1 ∧ Sh ac t t1
def upK (ks:List Nat):Up:=⟨fun k y=>if k ∈ ks then none else y,fun _ y=>y,fun x=>x,fun x=>x⟩
theorem upK_fr {ks K:List Nat} (h:∀ k ∈ ks,k ∈ K):FrOK K (fun _=>false) (upK ks):=by
 intro k
 by_cases e:k ∈ ks
 ·exact .inr ⟨h k e,none,fun y=>by simp [upK,e],fun _=>rfl⟩
 ·refine .inl (fun y=>?_)
  simp only [upK,e,if_false]
  cases y with
  | none=>rfl
  | some r=>cases r <;> simp [fgt]
theorem upK_ap (ks:List Nat) (s:St):Ap (upK ks) s { s with fr:=drps ks s.fr }:=⟨fun k=>by simp [upK,look_drps],fun _=>rfl,rfl,rfl⟩
theorem obok_id {ac:Ac} {u:Up} (hob:∀ k y,u.ob k y=y) (hsg:∀ x,u.sg x=x) (hlo:∀ x,u.lo x=x) (h1:ac.wob=none) (h2:ac.wsg=false):ObOK ac u :=
 ⟨fun k _ y=>hob k y,fun _=>⟨hsg,hlo⟩,fun k o n e=>by subst e; simp [Ac.wob] at h1,fun k e=>by rcases e with rfl | rfl <;> simp [Ac.wob] at h1,fun r o n e=>by subst e; simp [Ac.wsg] at h2⟩
theorem sh_no {ac:Ac} {s t:St} (h1:ac.wob=none) (h2:ac.wsg=false):Sh ac s t:=⟨fun k e=>by subst e; simp [Ac.wob] at h1,fun e=>by subst e; simp [Ac.wsg] at h2⟩
theorem loc_pure {α : Type} {L K : List Nat} {F : St → Option (R × St × Ac)} {f : St → Option (α × St)} (hf : Rd L K f) (g : α → Option D)
    (h:∀ s,F s=match f s with | some (a,s1)=>(g a).map fun d=>(.v d,s1,.no) | none=>none):Loc L K F:=by
 intro s r s1 ac hs
 rw [h] at hs
 split at hs
 ·rename_i a s2 h1
  simp only [Option.map_eq_some_iff] at hs
  obtain ⟨d,hd,e⟩:=hs
  cases e
  obtain ⟨ks,hk,rfl,ht⟩:=hf s a _ h1
  refine ⟨fun x e=>(nomatch e),trivial,upK ks,upK_fr hk,obok_id (fun _ _=>rfl) (fun _=>rfl) (fun _=>rfl) rfl rfl,upK_ap ks s,sh_no rfl rfl,fun t hag _=>?_⟩
  exact ⟨_,by rw [h,ht t hag.agv]; simp only [hd,Option.map_some],upK_ap ks t,sh_no rfl rfl⟩
 ·cases hs
theorem rxo_eq (x:Option X):(match x with | none=>[] | some x=>tkX x)=tkO? x:=by cases x <;> rfl
def isPure:O → Bool
 | .pick .. | .bd .. | .bs .. | .bin .. | .eq .. | .eqa .. | .un .. | .cv .. | .mi .. | .mm .. | .mf .. | .callp .. | .ms .. | .ss .. | .sl .. | .fd .. | .ixs .. | .ixa .. | .apps .. | .mx .. | .bits .. | .frbits .. | .ta .. => true
 | _=>false
theorem loc_pures (OO:Or) (m:TypeId → String → Option FuncId) (o:O) (dst:Option Nat) (h:isPure o=true):Loc (slotsO o) (tksO o) (fun s=>evO OO m o s dst):=by
 cases o <;> simp only [isPure,Bool.false_eq_true] at h
 case pick c a b =>
  have hr:=(rd_rxv c).bind (g:=fun d s1=>match d with | .b true=>rxv a s1 | .b false=>rxv b s1 | _=>none) (L':=slotX a ++ slotX b) (K':=tkX a ++ tkX b) (fun d=>by
   cases d with
   | b t=>cases t with
    | true=>exact (rd_rxv a).mono (by simp +contextual) (by simp +contextual)
    | false=>exact (rd_rxv b).mono (by simp +contextual) (by simp +contextual)
   | _=>exact Rd.none)
  refine loc_pure (hr.mono (by simp [slotsO]) (by simp [tksO])) (fun d=>some d) (fun s=>?_)
  simp only [evO]
  cases rxv c s with
  | none=>rfl
  | some p =>
   obtain ⟨d,s1⟩:=p
   cases d <;> try rfl
   rename_i t; cases t
   ·simp only [Bool.false_eq_true,if_false]; cases rxv b s1 <;> rfl
   ·simp only [if_true]; cases rxv a s1 <;> rfl
 case bd z ps =>
  refine loc_pure ((rd_rxs (ps.map (·.2.2))).mono (by simp [slotsO,List.flatMap_map]) (by simp [tksO,List.flatMap_map])) (fun ds=>if stbs ds then (fillc z ((ps.zip ds).map fun (p,d)=>(p.1,p.2.1,d))).map fun cs=>.a cs else none) (fun s=>?_)
  simp only [evO]
  cases rxs (ps.map (·.2.2)) s with
  | none=>rfl
  | some p=>obtain ⟨ds,s1⟩:=p; simp only; split <;> simp [Option.map_map,Function.comp_def]
 case bs sz n z ps =>
  refine loc_pure ((rd_rxs (ps.map (·.2))).mono (by simp [slotsO,List.flatMap_map]) (by simp [tksO,List.flatMap_map])) (fun ds=>if stbs ds then (fille (List.replicate n z) sz ((ps.zip ds).map fun (p,d)=>(p.1,d))).map fun xs=>.l .x sz xs else none) (fun s=>?_)
  simp only [evO]
  cases rxs (ps.map (·.2)) s with
  | none=>rfl
  | some p=>obtain ⟨ds,s1⟩:=p; simp only; split <;> simp [Option.map_map,Function.comp_def]
 case bin op x y =>
  refine loc_pure (((rd_rxv x).bind (fun a=>(rd_rxv y).map (fun b=>some (a,b)))).mono (by simp [slotsO]) (by simp [tksO])) (fun p=>binv op p.1 p.2) (fun s=>?_)
  simp only [evO]
  cases rxv x s with
  | none=>rfl
  | some p=>obtain ⟨a,s1⟩:=p; simp only; cases rxv y s1 <;> rfl
 case eq neg c x y =>
  refine loc_pure (((rd_rxv x).bind (fun a=>(rd_rxv y).map (fun b=>some (a,b)))).mono (by simp [slotsO]) (by simp [tksO])) (fun p=>(eq1 c p.1 p.2).map fun t=>.b (if neg then !t else t)) (fun s=>?_)
  simp only [evO]
  cases rxv x s with
  | none=>rfl
  | some p=>obtain ⟨a,s1⟩:=p; simp only; cases rxv y s1 with
   | none=>rfl
   | some q=>simp [Option.map_map,Function.comp_def]
 case eqa neg c x y =>
  refine loc_pure (((rd_rxv x).bind (fun a=>(rd_rxv y).map (fun b=>some (a,b)))).mono (by simp [slotsO]) (by simp [tksO])) (fun p=>match p.1,p.2 with | .a ds,.a es=>(eqs c ds es).map fun t=>.b (if neg then !t else t) | _,_=>none) (fun s=>?_)
  simp only [evO]
  cases rxv x s with
  | none=>rfl
  | some p =>
   obtain ⟨a,s1⟩:=p; simp only
   cases h2:rxv y s1 with
   | none=>cases a <;> simp [h2]
   | some q=>obtain ⟨b,s2⟩:=q; cases a <;> simp [h2] <;> cases b <;> simp [Option.map_map,Function.comp_def]
 case un op x =>
  refine loc_pure ((rd_rxv x).mono (by simp [slotsO]) (by simp [tksO])) (fun a=>unv op a) (fun s=>?_)
  simp only [evO]; cases rxv x s <;> rfl
 case cv c x =>
  refine loc_pure ((rd_rxv x).mono (by simp [slotsO]) (by simp [tksO])) (fun a=>cvv c a) (fun s=>?_)
  simp only [evO]; cases rxv x s <;> rfl
 case mi t x =>
  refine loc_pure ((rd_rxv x).mono (by simp [slotsO]) (by simp [tksO])) (fun a=>a.cp.map fun d=>.ic t d) (fun s=>?_)
  simp only [evO]; cases rxv x s <;> simp [Option.map_map,Function.comp_def]
 case mm nm x =>
  refine loc_pure ((rd_rxv x).mono (by simp [slotsO]) (by simp [tksO])) (fun a=>a.cp.map fun d=>.bm nm d) (fun s=>?_)
  simp only [evO]; cases rxv x s <;> simp [Option.map_map,Function.comp_def]
 case mf f xs =>
  refine loc_pure ((rd_rxs xs).mono (by simp [slotsO]) (by simp [tksO])) (fun ds=>(D.cps ds).map fun ds=>.fn f ds) (fun s=>?_)
  simp only [evO]; cases rxs xs s <;> simp [Option.map_map,Function.comp_def]
 case callp f xs =>
  refine loc_pure ((rd_rxs xs).mono (by simp [slotsO]) (by simp [tksO])) (fun ds=>callpv OO f ds) (fun s=>?_)
  simp only [evO]; cases rxs xs s <;> rfl
 case ms sz bytes z x y =>
  refine loc_pure (((rd_rxv x).bind (fun a=>(rd_rxv y).map (fun b=>some (a,b)))).mono (by simp [slotsO]) (by simp [tksO]))
   (fun p=>match p.1,p.2 with | .i .i64 n,.i .i64 c=>if 0 ≤ n ∧ n ≤ c ∧ c ≤ 9223372036854775807 ∧ c.toNat * bytes ≤ 140737488355328 then some (.l .x sz (List.replicate n.toNat z)) else none | _,_=>none) (fun s=>?_)
  simp only [evO]
  cases rxv x s with
  | none=>rfl
  | some p =>
   obtain ⟨a,s1⟩:=p; simp only
   cases h2:rxv y s1 with
   | none=>cases a <;> simp [h2]; rename_i k _; cases k <;> simp [h2]
   | some q =>
    obtain ⟨b,s2⟩:=q
    cases a <;> simp [h2]
    rename_i k n; cases k <;> simp [h2]
    cases b <;> (try rfl)
    rename_i k c; cases k <;> (try rfl)
    dsimp only
    split <;> rfl
 case ss x lo hi =>
  refine loc_pure (((rd_rxv x).bind (fun a=>(rd_rxo lo).bind (fun l=>(rd_rxo hi).map (fun h=>some (a,l,h))))).mono (by simp [slotsO]) (by simp [tksO,rxo_eq])) (fun p=>ssv p.1 p.2.1 p.2.2) (fun s=>?_)
  simp only [evO]
  cases rxv x s with
  | none=>rfl
  | some p=>obtain ⟨a,s1⟩:=p; simp only; cases evO.rxo lo s1 with
   | none=>rfl
   | some q=>obtain ⟨l,s2⟩:=q; simp only; cases evO.rxo hi s2 <;> rfl
 case sl sz x lo hi mx =>
  refine loc_pure (((rd_rxv x).bind (fun a=>(rd_rxo lo).bind (fun l=>(rd_rxo hi).bind (fun h=>(rd_rxo mx).map (fun m=>some (a,l,h,m)))))).mono (by simp [slotsO]) (by simp [tksO,rxo_eq])) (fun p=>slv sz p.1 p.2.1 p.2.2.1 p.2.2.2) (fun s=>?_)
  simp only [evO]
  cases rxv x s with
  | none=>rfl
  | some p=>obtain ⟨a,s1⟩:=p; simp only; cases evO.rxo lo s1 with
   | none=>rfl
   | some q=>obtain ⟨l,s2⟩:=q; simp only; cases evO.rxo hi s2 with
    | none=>rfl
    | some q=>obtain ⟨h,s3⟩:=q; simp only; cases evO.rxo mx s3 <;> rfl
 case fd agg off n x =>
  refine loc_pure ((rd_rxv x).mono (by simp [slotsO]) (by simp [tksO])) (fun a=>match a with | .a cs=>(match sub cs off n with | some ds=>ofc agg ds | none=>none) | _=>none) (fun s=>?_)
  simp only [evO]
  cases rxv x s with
  | none=>rfl
  | some p=>obtain ⟨a,s1⟩:=p; cases a <;> (try rfl); simp only; rename_i cs; cases sub cs off n <;> rfl
 case ixs x y =>
  refine loc_pure (((rd_rxv x).bind (fun a=>(rd_rxv y).map (fun b=>some (a,b)))).mono (by simp [slotsO]) (by simp [tksO]))
   (fun p=>match p.1,p.2 with | .s v,.i _ n=>(if 0 ≤ n then (match v.data.toList[n.toNat]? with | some c=>some (.i .u8 c.toNat) | none=>none) else none) | _,_=>none) (fun s=>?_)
  simp only [evO]
  cases rxv x s with
  | none=>rfl
  | some p =>
   obtain ⟨a,s1⟩:=p; simp only
   cases h2:rxv y s1 with
   | none=>cases a <;> simp [h2]
   | some q =>
    obtain ⟨b,s2⟩:=q
    cases a <;> simp [h2]
    cases b <;> simp
    split
    ·split <;> rename_i hh <;> simp [hh]
    ·rfl
 case ixa agg sz len x y =>
  refine loc_pure (((rd_rxv x).bind (fun a=>(rd_rxv y).map (fun b=>some (a,b)))).mono (by simp [slotsO]) (by simp [tksO]))
   (fun p=>match p.1,p.2 with | .a cs,.i _ n=>(if 0 ≤ n ∧ n < len then (match sub cs (n.toNat * sz) sz with | some ds=>ofc agg ds | none=>none) else none) | _,_=>none) (fun s=>?_)
  simp only [evO]
  cases rxv x s with
  | none=>rfl
  | some p =>
   obtain ⟨a,s1⟩:=p; simp only
   cases h2:rxv y s1 with
   | none=>cases a <;> simp [h2]
   | some q =>
    obtain ⟨b,s2⟩:=q
    cases a <;> simp [h2]
    cases b <;> simp
    split
    ·split <;> rename_i hh <;> simp [hh]
    ·rfl
 case apps x y =>
  refine loc_pure (((rd_rxv x).bind (fun a=>(rd_rxv y).map (fun b=>some (a,b)))).mono (by simp [slotsO]) (by simp [tksO])) (fun p=>match p.2 with | .s v=>appv 1 1 p.1 (ofBy v) | _=>none) (fun s=>?_)
  simp only [evO]
  cases rxv x s with
  | none=>rfl
  | some p=>obtain ⟨a,s1⟩:=p; simp only; cases rxv y s1 with
   | none=>rfl
   | some q=>obtain ⟨b,s2⟩:=q; cases b <;> rfl
 case mx big xs =>
  refine loc_pure ((rd_rxs xs).mono (by simp [slotsO]) (by simp [tksO])) (fun ds=>match ds with | .i k m :: ds=>mxv big m ds k | _=>none) (fun s=>?_)
  simp only [evO]
  cases rxs xs s with
  | none=>rfl
  | some p =>
   obtain ⟨ds,s1⟩:=p
   cases ds with
   | nil=>rfl
   | cons d ds=>cases d <;> rfl
 case bits x =>
  refine loc_pure ((rd_rxv x).mono (by simp [slotsO]) (by simp [tksO])) (fun a=>match a with | .f .f64 n=>some (.i .u64 n) | _=>none) (fun s=>?_)
  simp only [evO]
  cases rxv x s with
  | none=>rfl
  | some p=>obtain ⟨a,s1⟩:=p; cases a <;> (try rfl); rename_i k _; cases k <;> rfl
 case frbits x =>
  refine loc_pure ((rd_rxv x).mono (by simp [slotsO]) (by simp [tksO])) (fun a=>match a with | .i .u64 n=>if 0 ≤ n then some (.f .f64 n.toNat) else none | _=>none) (fun s=>?_)
  simp only [evO]
  cases rxv x s with
  | none=>rfl
  | some p =>
   obtain ⟨a,s1⟩:=p; cases a <;> (try rfl)
   rename_i k _; cases k <;> (try rfl)
   simp only; split <;> rfl
 case ta t x =>
  refine loc_pure ((rd_rxv x).mono (by simp [slotsO]) (by simp [tksO])) (fun a=>match a with | .ic t' d=>if t=t' then some d else none | _=>none) (fun s=>?_)
  simp only [evO]
  cases rxv x s with
  | none=>rfl
  | some p =>
   obtain ⟨a,s1⟩:=p; cases a <;> (try rfl)
   simp only; split <;> rfl
end Go.AM
