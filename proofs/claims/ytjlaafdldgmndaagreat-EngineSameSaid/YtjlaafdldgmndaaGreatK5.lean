/- Lemmas: an abstract machine over the loaded program, proved sound against the model once; what the program's functions compute. -/
import Derived.Test.YtjlaafdldgmndaaGreatK4
set_option linter.all false
namespace Go.AM
open Go.Proofs
set_option maxRecDepth 100000 in
theorem c_law13_awake : LL.call n_c_law13_awake [] [] 0 = some (.b true, [], 0) := lim_call.2 ⟨100, by kernel_rfl⟩
structure Twin (k : Int) (p : Nat) (i : Nat) (sg : List (List D)) (ea eb : Eng) (M : Mem) (fs : List (Option FrR)) : Prop where
 a : Rep sg 1 ea M fs
 b : Rep sg 3 eb M fs
 ka : ea.k = k
 kb : eb.k = k
 pa : ea.p = p
 pb : eb.p = p
 ca : ea.cl = false
 cb : eb.cl = false
 st : ea.st = eb.st
 si : ea.st ≤ i
 mi : MI k i M
 fi : ∀ (j : Nat) f, fs[j]? = some (some f) → FI k i f
 dis : ∀ x, own 1 ea x → ¬ own 3 eb x
theorem Twin.mono {k p i sg ea eb M fs} (h : Twin k p i sg ea eb M fs) : Twin k p (i + 1) sg ea eb M fs :=
 {h with si := by have := h.si; omega, mi := h.mi.mono, fi := fun j f hf => (h.fi j f hf).mono }
theorem set_fi {k i} {fs : List (Option FrR)} {n : Nat} {o : Option FrR} (h : ∀ (j : Nat) f, fs[j]? = some (some f) → FI k i f) (ho : ∀ f, o = some f → FI k i f) : ∀ (j : Nat) f, (fs.set n o)[j]? = some (some f) → FI k i f := by
 intro j f hf
 rw [List.getElem?_set] at hf
 split at hf
 ·split at hf
  ·injection hf with hf; exact ho f hf
  ·cases hf
 ·exact h j f hf
theorem two_begin {k p i sg ea eb M fs} (hk : 1 ≤ k ∧ k ≤ 4) (h : Twin k p i sg ea eb M fs) (t : Int) {r : Rw} (hr : r.ok) (hb : begO k false fs t (ownO k r) = 0) :
    ∃ sg1 sg2 ea' eb' fs', LL.call n_engine_Engine_Begin [.p 1 0, .i .i64 t, eOp (ownO k r)] sg sg.length = some (.i .i64 0, sg1, 1) ∧
     LL.call n_engine_Engine_Begin [.p 3 0, .i .i64 t, eOp (ownO k r)] sg1 sg1.length = some (.i .i64 0, sg2, 3) ∧ Twin k p (i + 1) sg2 ea' eb' M fs' ∧ sg1.length = sg.length + 1 ∧ sg2.length = sg.length + 2 := by
 obtain ⟨sg1, ea', A1, A2, A3, A4, A5, A6, A7, A8, A9, A10⟩ := rep_begin h.a t (ownO k r) (by rw [h.ka, h.ca]; exact hb)
 have hb1 : Rep sg1 3 eb M fs := h.b.keep (fun x hx => A9 x (h.b.lt hx) (fun e => h.dis x (.inl e) hx))
 obtain ⟨sg2, eb', B1, B2, B3, B4, B5, B6, B7, B8, B9, B10⟩ := rep_begin hb1 t (ownO k r) (by rw [h.kb, h.cb]; exact hb)
 have own_a : ∀ x, own 1 ea' x → own 1 ea x ∨ x = sg.length := by
  rintro x (rfl | rfl | ⟨j, hj⟩)
  ·exact .inl (.inl rfl)
  ·rw [A6]; exact .inl (.inr (.inl rfl))
  ·rcases A10 j x hj with h | h
   ·exact .inl (.inr (.inr ⟨j, h⟩))
   ·exact .inr h
 have own_b : ∀ x, own 3 eb' x → own 3 eb x ∨ x = sg1.length := by
  rintro x (rfl | rfl | ⟨j, hj⟩)
  ·exact .inl (.inl rfl)
  ·rw [B6]; exact .inl (.inr (.inl rfl))
  ·rcases B10 j x hj with h | h
   ·exact .inl (.inr (.inr ⟨j, h⟩))
   ·exact .inr h
 have l3 : 3 < sg.length := h.b.lt (.inl rfl)
 have ha2 : Rep sg2 1 ea' M (fs.set t.toNat (some (begF (ownO k r)))) := A3.keep (fun x hx => B9 x (A3.lt hx) (fun e => by
  subst e
  rcases own_a 3 hx with h1 | h1
  ·exact h.dis 3 h1 (.inl rfl)
  ·omega))
 refine ⟨sg1, sg2, ea', eb', _, A1, B1, ⟨ha2, B3, by rw [A4]; exact h.ka, by rw [B4]; exact h.kb, by rw [A5]; exact h.pa, by rw [B5]; exact h.pb, by rw [A7]; exact h.ca, by rw [B7]; exact h.cb, by rw [A8, B8]; exact h.st, by rw [A8]; have := h.si; omega, h.mi.mono, ?_, ?_⟩, A2, by omega⟩
 ·exact set_fi (fun j f hf => (h.fi j f hf).mono) (fun f hf => by injection hf with hf; subst hf; exact fi_begin hk _ hr)
 ·intro x hx hy
  rcases own_a x hx with h1 | h1 <;> rcases own_b x hy with h2 | h2
  ·exact h.dis x h1 h2
  ·have := h.a.lt h1; omega
  ·have := h.b.lt h2; omega
  ·omega
theorem two_pick {k : Int} {p i : Nat} {sg ea eb M fs} (hl : legal k p = 0) (h : Twin k p i sg ea eb M fs) (hi : i ≤ 200) (pick : Int) (hb : busyO fs 0 ≠ []) :
    ∃ sg1 sg2 ea' eb' M' fs' n o a d, LL.call n_engine_Engine_Pick [.p 1 0, .i .i64 pick] sg sg.length = some (.t [eEv n o a d, .b true], sg1, sg.length) ∧
     LL.call n_engine_Engine_Pick [.p 3 0, .i .i64 pick] sg1 sg1.length = some (.t [eEv n o a d, .b true], sg2, sg1.length) ∧ Twin k p (i + 1) sg2 ea' eb' M' fs' ∧ a.x.ok ∧ sg1.length = sg.length ∧ sg2.length = sg.length := by
 obtain ⟨n, f, hn, hf⟩ := pick_some hb pick
 have hF := h.fi n f hf
 have hS := si_step hl h.mi hF hi
 have hst := h.si
 obtain ⟨sg1, ea', A1, A2, A3, A4, A5, A6, A7, A8, A9, A10⟩ := rep_pick h.a i hi (by rw [h.ka, h.pa]; exact hl) (by omega) (by rw [h.ka]; exact h.mi) (by rw [h.ka]; exact h.fi) pick n hn f hf
 have hb1 : Rep sg1 3 eb M fs := h.b.keep (fun x hx => A9 x (fun hy => h.dis x hy hx))
 obtain ⟨sg2, eb', B1, B2, B3, B4, B5, B6, B7, B8, B9, B10⟩ := rep_pick hb1 i hi (by rw [h.kb, h.pb]; exact hl) (by have := h.st; omega) (by rw [h.kb]; exact h.mi) (by rw [h.kb]; exact h.fi) pick n hn f hf
 rw [h.ka, h.pa] at A1 A3
 rw [h.kb, h.pb] at B1 B3
 have own_a : ∀ x, own 1 ea' x → own 1 ea x := by
  rintro x (rfl | rfl | ⟨j, hj⟩)
  ·exact .inl rfl
  ·rw [A6]; exact .inr (.inl rfl)
  ·exact .inr (.inr ⟨j, A10 j x hj⟩)
 have own_b : ∀ x, own 3 eb' x → own 3 eb x := by
  rintro x (rfl | rfl | ⟨j, hj⟩)
  ·exact .inl rfl
  ·rw [B6]; exact .inr (.inl rfl)
  ·exact .inr (.inr ⟨j, B10 j x hj⟩)
 have ha2 := A3.keep (sg' := sg2) (fun x hx => B9 x (fun hy => h.dis x (own_a x hx) hy))
 refine ⟨sg1, sg2, ea', eb', _, _, n, f.o, _, _, A1, B1, ⟨ha2, B3, by rw [A4]; exact h.ka, by rw [B4]; exact h.kb, by rw [A5]; exact h.pa, by rw [B5]; exact h.pb, by rw [A7]; exact h.ca, by rw [B7]; exact h.cb, by rw [A8, B8, h.st], by rw [A8]; omega, hS.m, ?_, fun x hx hy => h.dis x (own_a x hx) (own_b x hy)⟩, hS.x, A2, by omega⟩
 refine set_fi (fun j f hf => (h.fi j f hf).mono) (fun g hg => ?_)
 split at hg
 ·cases hg
 ·rename_i hd
  injection hg with hg
  subst hg
  exact hS.f (by simpa using hd)
theorem cmp_self (x : It) (h : x.ok) : cmpI x x = 0 := (cmpI_zero h h).2 rfl
theorem ofM_ok {M : Mem} (hM : M.good) (k : Int) (p : Nat) (hp : p ≤ 16) : (∀ y ∈ (ofM k p M).is, y.ok) ∧ (ofM k p M).is.length ≤ 1000000 := by
 unfold ofM
 split
 ·refine ⟨fun y hy => ?_, ?_⟩
  ·simp only at hy
   have := (sortI_perm _).mem_iff.1 hy
   obtain ⟨z, hz, rfl⟩ := List.mem_map.1 this
   exact canon_okI (bagM_ok hM p z hz)
  ·have := bagM_len hM p
   simp only [sortI_len, List.length_map]; omega
 ·split
  ·have hp := List.mergeSort_perm (fullM M) (fun a b => decide (a.v ≤ b.v))
   have hmem : ∀ c ∈ (fullM M).mergeSort (fun a b => decide (a.v ≤ b.v)), c ∈ M.cs := fun c hc => List.mem_of_mem_drop (List.mem_filter.1 (hp.mem_iff.1 hc)).1
   refine ⟨fun y hy => ?_, ?_⟩
   ·simp only [lineM, List.mem_flatMap] at hy
    obtain ⟨c, hc, hyc⟩ := hy
    exact (hM.it c (hmem c hc)).2 y hyc
   ·have h1 := flat_len62 _ (fun c hc => (hM.it c (hmem c hc)).1)
    have h2 := hp.length_eq
    have h3 : (fullM M).length ≤ 1000 := by
     have h1 := List.length_filter_le (fun c : Cl => c.n == 1) (M.cs.drop 2)
     have h2 : (M.cs.drop 2).length ≤ 1000 := by have := hM.len; simp; omega
     unfold fullM; omega
    simp only [lineM]
    omega
  ·split <;> simp
set_option maxRecDepth 20000 in
set_option maxHeartbeats 8000000 in
theorem engineSame (kind param : Int) (acts : List Act) (hact : ∀ a ∈ acts, a.o.ok) : LL.call n_c_law13_EngineSame [.i .i64 kind, .i .i64 param, .l .z 8 (acts.map eAct)] [] 0 = some (.b true, [], 0) := by
 have hA := c_law13_awake
 have K := c_law12_Kind kind param []
 have hleg := legal_kind kind param
 have hkr := kindOf_le kind
 have hpr := paramOf_le kind param
 obtain ⟨k, hk⟩ : ∃ k, k = kindOf kind := ⟨_, rfl⟩
 obtain ⟨p, hp⟩ : ∃ p : Nat, paramOf kind param = p := ⟨(paramOf kind param).toNat, by omega⟩
 rw [← hk] at K hleg hkr
 rw [hp] at K hleg
 have N1 := c_engine_New k p []
 rw [if_pos hleg] at N1
 obtain ⟨sg0, hsg0⟩ : ∃ sg0, sg0 = [eMem ⟨[], 0⟩, eEng (newE k p 0)] := ⟨_, rfl⟩
 have N1' : LL.call n_engine_New [.i .i64 k, .i .i64 p] [] 0 = some (.t [.p 1 0, .i .i64 0], sg0, 0) := by rw [hsg0]; simpa using N1
 have hl0 : sg0.length = 2 := by rw [hsg0]; rfl
 have N2 := c_engine_New k p sg0
 rw [if_pos hleg, hl0] at N2
 obtain ⟨sg2, hsg2⟩ : ∃ sg2, sg2 = sg0 ++ [eMem ⟨[], 0⟩, eEng (newE k p 2)] := ⟨_, rfl⟩
 have N2' : LL.call n_engine_New [.i .i64 k, .i .i64 p] sg0 2 = some (.t [.p 3 0, .i .i64 0], sg2, 2) := by rw [hsg2]; simpa using N2
 have hl2 : sg2.length = 4 := by rw [hsg2]; simp [hl0]
 have T0 : Twin k p 0 sg2 (newE k p 0) (newE k p 2) ⟨[], 0⟩ [none, none, none, none, none, none] := by
  have nn : ∀ (i : Nat) (q : Nat), ([none, none, none, none, none, none] : List (Option Nat))[i]? ≠ some (some q) := by
   intro i q h
   have : i = 0 ∨ i = 1 ∨ i = 2 ∨ i = 3 ∨ i = 4 ∨ i = 5 ∨ 6 ≤ i := by omega
   rcases this with rfl | rfl | rfl | rfl | rfl | rfl | h6 <;> first | (simp at h; done) | (rw [List.getElem?_eq_none (by simpa using h6)] at h; cases h)
  have nf : ∀ (i : Nat) (q : FrR), ([none, none, none, none, none, none] : List (Option FrR))[i]? ≠ some (some q) := by
   intro i q h
   have : i = 0 ∨ i = 1 ∨ i = 2 ∨ i = 3 ∨ i = 4 ∨ i = 5 ∨ 6 ≤ i := by omega
   rcases this with rfl | rfl | rfl | rfl | rfl | rfl | h6 <;> first | (simp at h; done) | (rw [List.getElem?_eq_none (by simpa using h6)] at h; cases h)
  have n0 : ∀ i : Nat, ([none, none, none, none, none, none] : List (Option Nat))[i]? = some none → ([none, none, none, none, none, none] : List (Option FrR))[i]? = some none := by
   intro i h
   have hi : i < 6 := (List.getElem?_eq_some_iff.1 h).1
   have : i = 0 ∨ i = 1 ∨ i = 2 ∨ i = 3 ∨ i = 4 ∨ i = 5 := by omega
   rcases this with rfl | rfl | rfl | rfl | rfl | rfl <;> rfl
  refine ⟨⟨?_, ?_, rfl, rfl, fun i q h => absurd h (nn i q), n0, by simp [newE], fun i q h => absurd h (nn i q), fun i j q h => absurd h (nn i q)⟩,
   ⟨?_, ?_, rfl, rfl, fun i q h => absurd h (nn i q), n0, by simp [newE], fun i q h => absurd h (nn i q), fun i j q h => absurd h (nn i q)⟩, rfl, rfl, rfl, rfl, rfl, rfl, rfl, by simp [newE], ?_, fun j f h => absurd h (nf j f), ?_⟩
  ·rw [hsg2, hsg0]; rfl
  ·rw [hsg2, hsg0]; rfl
  ·rw [hsg2, hsg0]; rfl
  ·rw [hsg2, hsg0]; rfl
  ·exact ⟨good_nil, by simp, fun i => by simp [rdM, zC]; exact (nb_le k 0).1, fun _ i _ h => by simp [rdM, zC] at h⟩
  ·intro x hx hy
   rcases hx with rfl | rfl | ⟨j, hj⟩
   ·rcases hy with h | h | ⟨j, hj⟩
    ·omega
    ·simp [newE] at h
    ·exact nn j 1 hj
   ·rcases hy with h | h | ⟨j, hj⟩
    ·simp [newE] at h
    ·simp [newE] at h
    ·exact nn j _ hj
   ·exact nn j x hj
 refine wp_call e_c_law13_EngineSame rfl ?_
 have hzz : ∀ l : List Act, D.zzs (l.map eAct) = l.map eAct := fun l => zzs_flat eAct l
 simp at K
 simp [F_c_law13_EngineSame, hA, K, N1', N2', hl0, hl2]
 refine wc_lst (acts.take 120) (fun i sg => ⟨[(0, .v (.i .i64 k)), (2, .v (.l .z 8 (acts.map eAct))), (7, .v (.p 1 0)), (9, .v (.p 3 0)), (11, .v (.i .i64 i))], [], sg, 0⟩) (fun i rest sg => ∃ ea eb M fs, Twin k p i sg ea eb M fs) sg2 (by simp) ⟨_, _, _, _, T0⟩ ?_ ?_
 ·rintro i x rest sg hi hx ⟨ea, eb, M, fs, T⟩ ih
  have hi120 : i < 120 := by simp at hi; omega
  have hia : i < acts.length := by simp at hi; omega
  have hx' : acts[i] = x := by rw [← hx]; simp
  have hxo := hact x (by rw [← hx']; exact List.getElem_mem hia)
  have hii : (i : Int) < acts.length := by omega
  have hi12 : (i : Int) < 120 := by omega
  have w1 : IntKind.i64.wrap ((i : Int) + 1) = i + 1 := wrap64 (by omega)
  have e1 : (x.k % 256).tmod 14 = x.k % 256 % 14 := tmod_nn _ _ (by omega)
  obtain ⟨q, hq⟩ : ∃ q, q = x.k % 256 % 14 := ⟨_, rfl⟩
  rw [← hq] at e1
  have w2 : IntKind.i64.wrap q = q := wrap64 (by omega)
  have Ow := c_law06_Own k hkr x.o
  simp [eRw] at Ow
  by_cases hq3 : q < 3
  ·by_cases hb : begO k false fs x.t (ownO k x.o) = 0
   ·obtain ⟨sg1, sg2', ea', eb', fs', B1, B2, T', l1, l2⟩ := two_begin hkr T x.t hxo hb
    have ih := ih sg2' ⟨_, _, _, _, T'⟩
    have O1 := Ow sg
    have O2 := Ow sg1
    simp [eOp] at O1 O2 B1 B2
    simp at ih
    simp [hii, hi12, hia, hx', eAct, i64_255, e1, w2, hq3, O1, O2, B1, B2, w1]
    simpa using ih
   ·have B1 := rep_begin_no T.a x.t (ownO k x.o) (by rw [T.ka, T.ca]; exact hb)
    have B2 := rep_begin_no T.b x.t (ownO k x.o) (by rw [T.kb, T.cb]; exact hb)
    rw [T.ka, T.ca] at B1
    rw [T.kb, T.cb] at B2
    have ih := ih sg ⟨_, _, _, _, T.mono⟩
    have O1 := Ow sg
    generalize begO k false fs x.t (ownO k x.o) = er at *
    simp [eOp] at O1 B1 B2
    simp at ih
    simp [hii, hi12, hia, hx', eAct, i64_255, e1, w2, hq3, O1, B1, B2, w1]
    simpa using ih
  ·by_cases hb : busyO fs 0 = []
   ·have P1 := rep_pick_none T.a x.p hb
    have P2 := rep_pick_none T.b x.p hb
    have ih := ih sg ⟨_, _, _, _, T.mono⟩
    have C := c_pile_Item_Cmp ⟨0, 0⟩ ⟨0, 0⟩ ok0 ok0 sg
    rw [cmp_self _ ok0] at C
    simp [eEv] at P1 P2 C
    simp at ih
    simp [hii, hi12, hia, hx', eAct, i64_255, e1, w2, hq3, P1, P2, C, w1]
    simpa using ih
   ·obtain ⟨sg1, sg2', ea', eb', M', fs', n, o, a, d, P1, P2, T', hax, l1, l2⟩ := two_pick hleg T (by omega) x.p hb
    have ih := ih sg2' ⟨_, _, _, _, T'⟩
    have C := c_pile_Item_Cmp a.x a.x hax hax sg2'
    rw [cmp_self _ hax] at C
    simp [eEv] at P1 P2 C
    simp at ih
    simp [hii, hi12, hia, hx', eAct, i64_255, e1, w2, hq3, P1, P2, C, w1]
    simpa using ih
 ·rintro sg ⟨ea, eb, M, fs, T⟩
  have hleg' : legal ea.k ea.p = 0 := by rw [T.ka, T.pa]; exact hleg
  have hleg2 : legal eb.k eb.p = 0 := by rw [T.kb, T.pb]; exact hleg
  have V1 := rep_value T.a T.mi.good hleg'
  have V2 := rep_value T.b T.mi.good hleg2
  have ho := ofM_ok T.mi.good k p (by omega)
  have S := c_value_SameG (ofM k p M) (ofM k p M) ho.1 ho.1 (by omega) sg
  have hss : sameV (ofM k p M) (ofM k p M) := ⟨rfl, rfl, rfl⟩
  have S1 := c_engine_Steps ea sg 1 T.a.hr T.a.h6
  have S2 := c_engine_Steps eb sg 3 T.b.hr T.b.h6
  rw [T.st] at S1
  have M1 := c_engine_Memory ea sg 1 T.a.hr
  have M2 := c_engine_Memory eb sg 3 T.b.hr
  have C1 := c_cell_Memory_Clock M sg ea.m T.a.hm
  have C2 := c_cell_Memory_Clock M sg eb.m T.b.hm
  rw [T.ka, T.pa] at V1
  rw [T.kb, T.pb] at V2
  simp only [hss, decide_true] at S
  generalize ofM k p M = vv at *
  simp [eVl] at V1 V2 S
  by_cases h120 : acts.length ≤ 120
  ·have e1 : ((min 120 acts.length : Nat) : Int) = acts.length := by omega
   simp [e1, V1, V2, S, S1, S2, M1, M2, C1, C2]
  ·have e1 : ((min 120 acts.length : Nat) : Int) = 120 := by omega
   have e2 : (120 : Int) < acts.length := by omega
   simp [e1, e2, V1, V2, S, S1, S2, M1, M2, C1, C2]
def args_EngineSame : List (Bool × Ty) := [(false, .i .i64), (false, .i .i64), (false, .l 8 true tAct)]
theorem args_EngineSame_ok : tyA Tryz.prog [3, 3, 75] = some args_EngineSame := by kernel_rfl
theorem law_EngineSame (ds : List D) (h : FitA args_EngineSame ds) : ∃ sg lo, (lim EE).call n_c_law13_EngineSame ds [] 0 = some (.b true, sg, lo) := by
 cases h with
 | c h1 k =>
 obtain ⟨n1, rfl, w1⟩ := fits_i h1
 cases k with
 | c h2 k =>
 obtain ⟨n2, rfl, w2⟩ := fits_i h2
 cases k with
 | c h3 k =>
 cases h3 with
 | l sz agg e xs hl hx ha =>
 obtain ⟨is, rfl, hi⟩ := fits_acts xs hx (by simpa using ha)
 cases k
 exact ⟨[], 0, engineSame n1 n2 is hi⟩
end Go.AM
