/- Lemmas: an abstract machine over the loaded program, proved sound against the model once; what the program's functions compute. -/
import Derived.Test.YtjlaafdldgmndaaK4
import Derived.Test.YtjlaafdldgmndaaK1
import Derived.Test.YtjlaafdldgmndaaK3
import Derived.Test.YtjlaafdldgmndaaK2
import Derived.Test.YtjlaafdldgmndaaProg
set_option linter.all false
namespace Go.AM
structure Solo (k : Int) (p i : Nat) (sg : List (List D)) (e : Eng) (M : Mem) (fs : List (Option FrR)) : Prop where
 R : Rep sg 1 e M fs
 ek : e.k = k
 ep : e.p = p
 st : e.st ≤ i
 mi : MI k i M
 fi : ∀ (j : Nat) f, fs[j]? = some (some f) → FI k i f
 km : k = 2 → KM p i M
 kf : k = 2 → ∀ (j : Nat) f, fs[j]? = some (some f) → KF p i M f
def pot (k : Int) (p : Nat) (M : Mem) (fs : List (Option FrR)) : Nat := if k = 2 then phiK p M fs else phi (costA k p M) fs
theorem KF.mono {p s M f} (h : KF p s M f) : KF p (s + 1) M f := h.keep (Tr.rfl' M)
theorem Solo.mono {k p i sg e M fs} (h : Solo k p i sg e M fs) : Solo k p (i + 1) sg e M fs :=
 {h with st := by have := h.st; omega, mi := h.mi.mono, fi := fun j f hf => (h.fi j f hf).mono, km := fun e => (h.km e).mono, kf := fun e j f hf => (h.kf e j f hf).mono }
theorem set_all {P : FrR → Prop} {fs : List (Option FrR)} {n : Nat} {o : Option FrR} (h : ∀ (j : Nat) f, fs[j]? = some (some f) → P f) (ho : ∀ f, o = some f → P f) : ∀ (j : Nat) f, (fs.set n o)[j]? = some (some f) → P f := by
 intro j f hf
 rw [List.getElem?_set] at hf
 split at hf
 ·split at hf
  ·injection hf with hf; exact ho f hf
  ·cases hf
 ·exact h j f hf
theorem kf_begin (p s : Nat) (M : Mem) (o : Rw) : KF p s M (begF o) :=
 ⟨fun _ h => absurd rfl h, fun _ h => by simp [begF] at h, fun _ h => by simp [begF] at h, fun _ h => absurd rfl h, fun _ h => by simp [begF] at h, fun _ h => by simp [begF] at h, fun _ h => by simp [begF] at h, fun _ h => by simp [begF] at h, fun _ h => by simp [begF] at h⟩
theorem Solo.begin {k : Int} {p : Nat} {i sg e M fs} (hl : legal k p = 0) (h : Solo k p i sg e M fs) (t : Int) (x : Rw) (hx : x.ok) :
    ∃ sg' e' fs' er lo, LL.call n_engine_Engine_Begin [.p 1 0, .i .i64 t, eOp (ownO k x)] sg sg.length = some (.i .i64 er, sg', lo) ∧ Solo k p (i + 1) sg' e' M fs' := by
 have hk := legal_k hl
 by_cases hb : begO e.k e.cl fs t (ownO k x) = 0
 ·obtain ⟨sg1, e', A1, A2, A3, A4, A5, A6, A7, A8, A9, A10⟩ := rep_begin h.R t (ownO k x) hb
  refine ⟨sg1, e', _, 0, 1, A1, ⟨A3, by rw [A4]; exact h.ek, by rw [A5]; exact h.ep, by rw [A8]; have := h.st; omega, h.mi.mono, ?_, fun e => (h.km e).mono, fun e2 => ?_⟩⟩
  ·exact set_all (P := fun f => FI k (i + 1) f) (fun j f hf => (h.fi j f hf).mono) (fun f hf => by injection hf with hf; subst hf; exact fi_begin (by omega) _ hx)
  ·exact set_all (P := fun f => KF p (i + 1) M f) (fun j f hf => (h.kf e2 j f hf).mono) (fun f hf => by injection hf with hf; subst hf; exact kf_begin _ _ _ _)
 ·exact ⟨sg, e, fs, _, _, rep_begin_no h.R t (ownO k x) hb, h.mono⟩
theorem Solo.pick {k : Int} {p : Nat} {i sg e M fs} (hl : legal k p = 0) (hi : i ≤ 4990) (h : Solo k p i sg e M fs) (pick : Int) (hb : busyO fs 0 ≠ []) :
    ∃ sg' e' M' fs' n o a d, LL.call n_engine_Engine_Pick [.p 1 0, .i .i64 pick] sg sg.length = some (.t [eEv n o a d, .b true], sg', sg.length) ∧ Solo k p (i + 1) sg' e' M' fs' ∧ sg'.length = sg.length ∧ pot k p M' fs' < pot k p M fs := by
 have hp := legal_p hl
 obtain ⟨n, f, hn, hf⟩ := pick_some hb pick
 have hF := h.fi n f hf
 have hst := h.st
 have hS := si_step hl h.mi hF (by omega)
 obtain ⟨sg1, e', A1, A2, A3, A4, A5, A6, A7, A8, A9, A10⟩ := rep_pick h.R i (by omega) (by rw [h.ek, h.ep]; exact hl) (by omega) (by rw [h.ek]; exact h.mi) (by rw [h.ek]; exact h.fi) pick n hn f hf
 rw [h.ek, h.ep] at A1 A3
 by_cases h2 : k = 2
 ·subst h2
  obtain ⟨K, hlt⟩ := ends_stepK (by omega) h.R.f6 hf h.mi hF (h.km rfl) (h.kf rfl n f hf)
  refine ⟨sg1, e', _, _, n, f.o, _, _, A1, ⟨A3, by rw [A4]; exact h.ek, by rw [A5]; exact h.ep, by rw [A8]; omega, hS.m, ?_, fun _ => K.km, fun _ => ?_⟩, A2, by unfold pot; rw [if_pos rfl, if_pos rfl]; exact hlt⟩
  ·refine set_all (P := fun f => FI 2 (i + 1) f) (fun j f hf => (h.fi j f hf).mono) (fun g hg => ?_)
   split at hg
   ·cases hg
   ·rename_i hd
    injection hg with hg
    subst hg
    exact hS.f (by simpa using hd)
  ·refine set_all (P := fun g => KF p (i + 1) (stepP 2 p M f).m g) (fun j g hg => (h.kf rfl j g hg).keep K.tr) (fun g hg => ?_)
   split at hg
   ·cases hg
   ·rename_i hd
    injection hg with hg
    subst hg
    exact K.kf (by simpa using hd)
 ·have hlt := ends_step (M := M) hl h2 h.R.f6 hf hF
  refine ⟨sg1, e', _, _, n, f.o, _, _, A1, ⟨A3, by rw [A4]; exact h.ek, by rw [A5]; exact h.ep, by rw [A8]; omega, hS.m, ?_, fun e => absurd e h2, fun e => absurd e h2⟩, A2, by unfold pot; rw [if_neg h2, if_neg h2]; exact hlt⟩
  refine set_all (P := fun f => FI k (i + 1) f) (fun j f hf => (h.fi j f hf).mono) (fun g hg => ?_)
  split at hg
  ·cases hg
  ·rename_i hd
   injection hg with hg
   subst hg
   exact hS.f (by simpa using hd)
theorem Solo.none {k p i sg e M fs} (h : Solo k p i sg e M fs) (pick : Int) (hb : busyO fs 0 = []) :
    LL.call n_engine_Engine_Pick [.p 1 0, .i .i64 pick] sg sg.length = some (.t [eEv 0 ⟨0, ⟨0, 0⟩, 0, 0⟩ ⟨false, ⟨0, 0⟩, 0⟩ false, .b false], sg, sg.length) := rep_pick_none h.R pick hb
theorem Solo.close {k p i sg e M fs} (h : Solo k p i sg e M fs) : LL.call n_engine_Engine_Close [.p 1 0] sg sg.length = some (.t [], sg.set 1 (eEng { e with cl := true }), sg.length) ∧ Solo k p i (sg.set 1 (eEng { e with cl := true })) { e with cl := true } M fs := by
 have R := h.R
 have hl := get_lt R.hr
 refine ⟨c_engine_Close e sg 1 R.hr R.h6, ⟨⟨List.getElem?_set_self hl, by rw [List.getElem?_set_ne (Ne.symm R.rm)]; exact R.hm, R.h6, R.f6, fun i q hq => ?_, R.nn, R.rm, R.qr, R.qq⟩, h.ek, h.ep, h.st, h.mi, h.fi, h.km, h.kf⟩⟩
 obtain ⟨f, K, a, b, c⟩ := R.fr i q hq
 exact ⟨f, K, a, b, by rw [List.getElem?_set_ne (Ne.symm (R.qr i q hq).1)]; exact c⟩
theorem Solo.le {k : Int} {p : Nat} {i sg e M fs} (hl : legal k p = 0) (h : Solo k p i sg e M fs) (hi : i ≤ 60) : pot k p M fs ≤ 3900 := by
 have hp := legal_p hl
 unfold pot
 by_cases h2 : k = 2
 ·rw [if_pos h2]
  subst h2
  refine phiK_le (by omega) h.R.f6 h.mi (fun f hf => ?_) (h.km rfl) hi
  obtain ⟨j, hj⟩ := List.mem_iff_getElem?.1 hf
  exact (h.fi j f hj).seen.1
 ·rw [if_neg h2]
  have := phi_le (costA k p M) 100 fs (fun f hf => by
   obtain ⟨j, hj⟩ := List.mem_iff_getElem?.1 hf
   exact costA_le hl M f (h.fi j f hj).at_.1)
  have h6 := h.R.f6
  rw [h6] at this
  omega
end Go.AM

namespace Go.AM
def fr00 : D := .a [.i .i64 0, .i .u64 0, .i .i64 0, .i .i64 0, .i .i64 0, .i .i64 0, .i .i64 0, .i .i64 0, .i .i64 0, .i .i64 0, .b false, .i .i64 0, .i .i64 0, .i .i64 0, .l .z 2 [], .i .i64 0, .l .z 2 []]
theorem c_ref13_New_0 (k : Int) (p : Nat) (sg : List (List D)) :
    LL.call n_c_ref13_New [.i .i64 k, .i .i64 p] sg sg.length = some (.a [.i .i64 k, .i .i64 p, .l .o 3 [], .l .o 17 (List.replicate 6 fr00), .b false], sg, sg.length) := by
 refine wp_call e_c_ref13_New rfl ?_
 simp [F_c_ref13_New, fr00, List.replicate]
theorem c_law13_Make_0 (k : Int) (p : Nat) (hl : legal k p = 0) (sg : List (List D)) :
    LL.call n_c_law13_Make [.i .i64 k, .i .i64 p] sg sg.length = some (.t [.a (.p (sg.length + 1) 0 :: .i .i64 k :: .i .i64 p :: .l .o 3 [] :: .l .o 17 (List.replicate 6 fr00) :: [.b false]), .b true], sg ++ [eMem ⟨[], 0⟩, eEng (newE k p sg.length)], sg.length) := by
 have N := c_engine_New k p sg
 rw [if_pos hl] at N
 obtain ⟨m, hm⟩ : ∃ m, m = eMem ⟨[], 0⟩ := ⟨_, rfl⟩
 have ht : ((p : Int)).toNat = p := by omega
 rw [ht] at N
 rw [← hm] at N ⊢
 have R := c_ref13_New_0 k p (sg ++ [m, eEng (newE k p sg.length)])
 refine wp_call e_c_law13_Make rfl ?_
 simp at R
 simp [F_c_law13_Make, N, R]
 intro h
 omega
end Go.AM

namespace Go.AM
def chkM (P : Program) (t : TypeId) (nm : String) (f : FuncId) : Bool := match P.info? t with
 | some i => match i.methods.find? (·.name == nm) with
  | some m => m.path.toList.isEmpty && (match m.func with
   | some (g, true) => (match P.underlying t with | some (.pointer _) => g == f && decide (f < Q0) | _ => false)
   | some (g, false) => (match P.underlying t with
    | some (.pointer e) => decide (Q0 ≤ f) && g == f - Q0 && aggT P e == some false && szT P e == some 1
    | some _ => g == f && decide (f < Q0)
    | none => false)
   | none => false)
  | none => false
 | none => false
theorem wrap_ok (ts : Array TypeId) (t : TypeId) (a : Addr) (s1 s2 : String) : Builtin.ssaWrapNilChk_ ts t #[.pointer (some a), strVal s1, strVal s2] = pure (.pointer (some a)) := rfl
theorem meth_one {P : Program} {t nm f} (h : chkM P t nm f = true) :
    (f < Q0 → ∀ v w, (method (P.types.size + Made.depth) t v nm).run P w = .ok (f, v) w) ∧
    (Q0 ≤ f → ∀ b off u w, World.cell? w ⟨b, off, none⟩ = some u → (method (P.types.size + Made.depth) t (.pointer (some ⟨b, off, none⟩)) nm).run P w = .ok (f - Q0, u) w) := by
 unfold chkM at h
 split at h
 ·rename_i i hi
  split at h
  ·rename_i m hm
   simp only [Bool.and_eq_true] at h
   obtain ⟨hp, h⟩ := h
   have hp' : m.path.toList = [] := List.isEmpty_iff.1 hp
   obtain ⟨n, hn⟩ : ∃ n, P.types.size + Made.depth = n + 1 := ⟨P.types.size + 99, rfl⟩
   rw [hn]
   split at h
   ·rename_i g hg
    split at h
    ·rename_i e hu
     simp only [Bool.and_eq_true, beq_iff_eq, decide_eq_true_eq] at h
     obtain ⟨rfl, hf⟩ := h
     refine ⟨fun _ v w => ?_, fun hq => absurd hf (Nat.not_lt.2 hq)⟩
     simp [method, typeInfo, hi, hm, hp', follow, hg, receiverAt, underlying, hu, Place.get]
    ·cases h
   ·rename_i g hg
    split at h
    ·rename_i e hu
     simp only [Bool.and_eq_true, beq_iff_eq, decide_eq_true_eq] at h
     obtain ⟨⟨⟨hf, hgf⟩, ha⟩, hs⟩ := h
     refine ⟨fun hq => absurd hq (Nat.not_lt.2 hf), fun _ b off u w hc => ?_⟩
     have hrun := run_load' (P := P) (w := w) (t := e) (b := b) (off := off) (us := [u]) ha hs (.inr rfl) rfl (fun j v hj => by
      cases j with
      | zero => simp at hj; subst hj; simpa using hc
      | succ j => simp at hj)
     simp only [Instr.loadAt, Instr.sureAddr] at hrun
     have hpe : m.path = #[] := by simpa using hp
     simp at hrun
     simp [method, typeInfo, hi, hm, hp', hpe, follow, hg, receiverAt, underlying, hu, Place.get, wrap_ok, asAddr, hrun, hgf]
    ·rename_i d hne hu
     simp only [Bool.and_eq_true, beq_iff_eq, decide_eq_true_eq] at h
     obtain ⟨rfl, hf⟩ := h
     refine ⟨fun _ v w => ?_, fun hq => absurd hf (Nat.not_lt.2 hq)⟩
     simp [method, typeInfo, hi, hm, hp', follow, hg, receiverAt, underlying, hu, Place.get]
    ·cases h
   ·cases h
  ·cases h
 ·cases h
theorem meth_all {P : Program} {T : List (TypeId × String × FuncId)} (h : T.all (fun p => chkM P p.1 p.2.1 p.2.2) = true) :
    MethOK P (fun t nm => (T.find? fun p => p.1 == t && p.2.1 == nm).map (·.2.2)) := by
 intro t nm f hf
 simp only [Option.map_eq_some_iff] at hf
 obtain ⟨⟨t', nm', f'⟩, h1, rfl⟩ := hf
 have h2 := List.find?_some h1
 simp only [Bool.and_eq_true, beq_iff_eq] at h2
 obtain ⟨rfl, rfl⟩ := h2
 exact meth_one (List.all_eq_true.1 h _ (List.mem_of_find?_eq_some h1))
end Go.AM

namespace Go.AM
open Go.Proofs
set_option maxRecDepth 100000
theorem fol : Try.prog.follows .mixedOrders = true := by kernel_rfl
theorem tab_ok : tab.all (fun p => chkFn Try.prog EE.fbits EE.frb (rid p.1) p.2) = true := by kernel_rfl
theorem look_in {α : Type} {k : Nat} {x : α} : ∀ {l : List (Nat × α)}, look k l = some x → (k, x) ∈ l
 | (j, y) :: r, h => by
  simp only [look] at h
  split at h
  ·rename_i e; cases h; subst e; simp
  ·exact List.mem_cons_of_mem _ (look_in h)
theorem libF : LibF Try.prog EE := fun _ _ _ h => nomatch h
theorem env_ok : EnvOK Try.prog EE := ⟨fun f af h => List.all_eq_true.1 tab_ok (f, af) (look_in h), libF, fun _ _ _ _ _ h => nomatch h⟩
theorem meth_ok : methL.all (fun p => chkM Try.prog p.1 p.2.1 p.2.2) = true := by kernel_rfl
theorem lib_ok : Lib Try.prog EE.fbits EE.frb EE.meth where
 bits := fun f h n w => by cases h; rfl
 frb := fun f h n w => by cases h; rfl
 meth := meth_all meth_ok
end Go.AM

namespace Go.AM
open Go.Proofs
set_option maxRecDepth 100000 in
theorem c_law13_awake : LL.call n_c_law13_awake [] [] 0 = some (.b true, [], 0) := lim_call.2 ⟨100, by kernel_rfl⟩
theorem solo0 {k : Int} {p : Nat} (hk : 1 ≤ k ∧ k ≤ 4) : Solo k p 0 [eMem ⟨[], 0⟩, eEng (newE k p 0)] (newE k p 0) ⟨[], 0⟩ [none, none, none, none, none, none] := by
 have nn : ∀ (i : Nat) (q : Nat), ([none, none, none, none, none, none] : List (Option Nat))[i]? ≠ some (some q) := by
  intro i q h
  have : i = 0 ∨ i = 1 ∨ i = 2 ∨ i = 3 ∨ i = 4 ∨ i = 5 ∨ 6 ≤ i := by omega
  rcases this with rfl | rfl | rfl | rfl | rfl | rfl | h6 <;> first | (simp at h; done) | (rw [List.getElem?_eq_none (by simpa using h6)] at h; cases h)
 have nf : ∀ (i : Nat) (q : FrR), ([none, none, none, none, none, none] : List (Option FrR))[i]? ≠ some (some q) := by
  intro i q h
  have : i = 0 ∨ i = 1 ∨ i = 2 ∨ i = 3 ∨ i = 4 ∨ i = 5 ∨ 6 ≤ i := by omega
  rcases this with rfl | rfl | rfl | rfl | rfl | rfl | h6 <;> first | (simp at h; done) | (rw [List.getElem?_eq_none (by simpa using h6)] at h; cases h)
 have n0 : ∀ i : Nat, ([none, none, none, none, none, none] : List (Option Nat))[i]? = some none → ([none, none, none, none, none, none] : List (Option FrR))[i]? = some none := by
  intro i h
  have hi : i < 6 := (List.getElem?_eq_some_iff.1 h).1
  have : i = 0 ∨ i = 1 ∨ i = 2 ∨ i = 3 ∨ i = 4 ∨ i = 5 := by omega
  rcases this with rfl | rfl | rfl | rfl | rfl | rfl <;> rfl
 have z : ∀ i : Int, rdM ⟨[], 0⟩ i = zC := by intro i; simp [rdM]
 refine ⟨⟨rfl, rfl, rfl, rfl, fun i q h => absurd h (nn i q), n0, by simp [newE], fun i q h => absurd h (nn i q), fun i j q h => absurd h (nn i q)⟩, rfl, rfl, by simp [newE],
  ⟨good_nil, by simp, fun i => by simp [z, zC]; exact (nb_le k 0).1, fun _ i _ h => by simp [z, zC] at h⟩, fun j f h => absurd h (nf j f), fun _ => ⟨by simp [z], fun x _ => by simp [z, zC], fun i => by simp [z, zC], by simp [z, zC]⟩, fun _ j f h => absurd h (nf j f)⟩
theorem pick_idx {j : Nat} {n : Nat} (hn : 0 < n) : ((j : Int).tmod n) = ((j % n : Nat) : Int) := by
 rw [Int.tmod_eq_emod_of_nonneg (by omega)]
 omega
set_option maxRecDepth 20000 in
set_option maxHeartbeats 8000000 in
theorem engineEnds (kind param : Int) (acts : List Act) (hact : ∀ a ∈ acts, a.o.ok) (picks : List Int) (hpl : picks.length ≤ maxLen) :
    LL.call n_c_law13_EngineEnds [.i .i64 kind, .i .i64 param, .l .z 8 (acts.map eAct), .l .z 1 (picks.map (.i .i64))] [] 0 = some (.b true, [], 0) := by
 have hA := c_law13_awake
 have K := c_law12_Kind kind param []
 have hleg := legal_kind kind param
 have hkr := kindOf_le kind
 have hpr := paramOf_le kind param
 obtain ⟨k, hk⟩ : ∃ k, k = kindOf kind := ⟨_, rfl⟩
 obtain ⟨p, hp⟩ : ∃ p : Nat, paramOf kind param = p := ⟨(paramOf kind param).toNat, by omega⟩
 rw [← hk] at K hleg hkr
 rw [hp] at K hleg
 have MK := c_law13_Make_0 k p hleg []
 obtain ⟨fr0, hfr0⟩ : ∃ fr0, fr0 = List.replicate 6 fr00 := ⟨_, rfl⟩
 rw [← hfr0] at MK
 obtain ⟨sg0, hsg0⟩ : ∃ sg0, sg0 = [eMem ⟨[], 0⟩, eEng (newE k p 0)] := ⟨_, rfl⟩
 have MK' : LL.call n_c_law13_Make [.i .i64 k, .i .i64 p] [] 0 = some (.t [.a [.p 1 0, .i .i64 k, .i .i64 p, .l .o 3 [], .l .o 17 fr0, .b false], .b true], sg0, 0) := by rw [hsg0]; simpa using MK
 have S0 : Solo k p 0 sg0 (newE k p 0) ⟨[], 0⟩ [none, none, none, none, none, none] := by rw [hsg0]; exact solo0 hkr
 have hzz : ∀ l : List Act, D.zzs (l.map eAct) = l.map eAct := fun l => zzs_flat eAct l
 have hzi : D.zzs (picks.map (.i .i64)) = picks.map (.i .i64) := zzs_flat (D.i .i64) picks
 refine wp_call e_c_law13_EngineEnds rfl ?_
 simp at K
 simp [F_c_law13_EngineEnds, hA, K, MK', hzi]
 refine wc_lst (acts.take 60) (fun i sg => ⟨[(0, .v (.i .i64 k)), (2, .v (.l .z 8 (acts.map eAct))), (3, .v (.l .z 1 (picks.map (.i .i64)))), (9, .q (.ptr 9 0)), (11, .v (.i .i64 i))], [(9, [.p 1 0, .i .i64 k, .i .i64 p, .l .z 3 [], .l .z 17 fr0, .b false])], sg, 0⟩) (fun i rest sg => ∃ e M fs, Solo k p i sg e M fs) sg0 (by simp) ⟨_, _, _, S0⟩ ?_ ?_
 ·rintro i x rest sg hi hx ⟨e, M, fs, T⟩ ih
  have hi60 : i < 60 := by simp at hi; omega
  have hia : i < acts.length := by simp at hi; omega
  have hx' : acts[i] = x := by rw [← hx]; simp
  have hxo := hact x (by rw [← hx']; exact List.getElem_mem hia)
  have hii : (i : Int) < acts.length := by omega
  have hi6 : (i : Int) < 60 := by omega
  have w1 : IntKind.i64.wrap ((i : Int) + 1) = i + 1 := wrap64 (by omega)
  have e1 : (x.k % 256).tmod 14 = x.k % 256 % 14 := tmod_nn _ _ (by omega)
  obtain ⟨q, hq⟩ : ∃ q, q = x.k % 256 % 14 := ⟨_, rfl⟩
  rw [← hq] at e1
  have w2 : IntKind.i64.wrap q = q := wrap64 (by omega)
  by_cases hq3 : q < 3
  ·obtain ⟨sg1, e', fs', er, lo, B1, T'⟩ := T.begin hleg x.t x.o hxo
   have ih := ih sg1 ⟨_, _, _, T'⟩
   have O1 := c_law06_Own k hkr x.o sg
   simp [eRw, eOp] at O1 B1
   simp at ih
   simp [hii, hi6, hia, hx', eAct, i64_255, e1, w2, hq3, O1, B1, w1]
   simpa using ih
  ·by_cases hq12 : q < 12
   ·by_cases hb : busyO fs 0 = []
    ·have P1 := T.none x.p hb
     have ih := ih sg ⟨_, _, _, T.mono⟩
     simp [eEv] at P1
     simp at ih
     simp [hii, hi6, hia, hx', eAct, i64_255, e1, w2, hq3, hq12, P1, w1]
     simpa using ih
    ·obtain ⟨sg1, e', M', fs', n, o, a, d, P1, T', l1, _⟩ := T.pick hleg (by omega) x.p hb
     have ih := ih sg1 ⟨_, _, _, T'⟩
     simp [eEv] at P1
     simp at ih
     simp [hii, hi6, hia, hx', eAct, i64_255, e1, w2, hq3, hq12, P1, w1]
     simpa using ih
   ·have ih := ih sg ⟨_, _, _, T.mono⟩
    simp at ih
    simp [hii, hi6, hia, hx', eAct, i64_255, e1, w2, hq3, hq12, w1]
    simpa using ih
 ·rintro sg ⟨e, M, fs, T⟩
  obtain ⟨i1, hi1⟩ : ∃ i1, i1 = (acts.take 60).length := ⟨_, rfl⟩
  have hi60 : i1 ≤ 60 := by rw [hi1]; simp; omega
  rw [← hi1] at T
  obtain ⟨C, T1⟩ := T.close
  have hle := T1.le hleg hi60
  obtain ⟨sg1, hsg1⟩ : ∃ s, s = sg.set 1 (eEng { e with cl := true }) := ⟨_, rfl⟩
  rw [← hsg1] at C T1
  have hinit : pot k p M fs + 0 ≤ 3900 := by omega
  by_cases h60 : acts.length ≤ 60
  case' pos =>
   have e1 : ((min 60 acts.length : Nat) : Int) = acts.length := by omega
   simp [e1, C]
  case' neg =>
   have e1 : ((min 60 acts.length : Nat) : Int) = 60 := by omega
   have e2 : (60 : Int) < acts.length := by omega
   simp [e1, e2, C]
  all_goals
   refine wc_ind (fun a : Nat × List (List D) => ⟨[(3, .v (.l .z 1 (picks.map (.i .i64)))), (9, .q (.ptr 9 0)), (14, .v (.i .i64 a.1))], [(9, [.p 1 0, .i .i64 k, .i .i64 p, .l .z 3 [], .l .z 17 fr0, .b false])], a.2, 0⟩) (fun a => 4000 - a.1)
    (fun a => ∃ e M fs, Solo k p (i1 + a.1) a.2 e M fs ∧ pot k p M fs + a.1 ≤ 3900) ?_ (0, sg1) ⟨_, _, _, T1, hinit⟩
   rintro ⟨j, sg⟩ ⟨e, M, fs, T, hpot⟩ ih
   simp only at T hpot ih ⊢
   have hj : (j : Int) < 4000 := by omega
   have w1 : IntKind.i64.wrap ((j : Int) + 1) = j + 1 := wrap64 (by omega)
   have wq : IntKind.i64.wrap ((j : Int).tdiv 7) = (j : Int).tdiv 7 := wrap64 (by rw [Int.tdiv_eq_ediv_of_nonneg (by omega)]; omega)
   obtain ⟨pk, hpk⟩ : ∃ pk, pk = if picks = [] then (j : Int).tdiv 7 else picks[j % picks.length]! := ⟨_, rfl⟩
   have B := c_engine_Busy e T.R.h6 sg 1 T.R.hr
   rw [T.R.busy] at B
   by_cases hp0 : picks = []
   case' pos =>
    rw [if_pos hp0] at hpk
    rw [← hpk] at wq
    subst hp0
    simp [hj, wq, ← hpk]
   case' neg =>
    have hl0 := List.length_pos_iff.2 hp0
    have hm := Nat.mod_lt j hl0
    rw [if_neg hp0, getElem!_pos picks _ hm] at hpk
    have hl0' : (0 : Int) < picks.length := by omega
    have hne : ((picks.length : Int) == 0) = false := by rw [beq_eq_false_iff_ne]; omega
    have hti := pick_idx (j := j) hl0
    have hmj := Nat.mod_le j picks.length
    obtain ⟨m, hmd⟩ : ∃ m, m = j % picks.length := ⟨_, rfl⟩
    simp only [← hmd] at hti hm hpk hmj
    have wm : IntKind.i64.wrap (m : Int) = m := wrap64 (by omega)
    simp [hj, hp0, hl0, hl0', hne, hti, wm, hm, ← hpk]
   all_goals
    by_cases hb : busyO fs 0 = []
    ·have P1 := T.none pk hb
     rw [hb] at B
     simp [eEv] at P1 B
     rw [P1]
     simp [B]
    ·obtain ⟨sg1, e', M', fs', n, o, a, d, P1, T', l1, hlt⟩ := T.pick hleg (by omega) pk hb
     have ih := ih (j + 1, sg1) (by simp only; omega) ⟨e', M', fs', T', by simp only; omega⟩
     simp [eEv] at P1
     simp at ih
     rw [P1]
     simp [w1]
     simpa using ih
def args_EngineEnds : List (Bool × Ty) := [(false, .i .i64), (false, .i .i64), (false, .l 8 true tAct), (false, .l 1 false (.i .i64))]
theorem args_EngineEnds_ok : tyA Try.prog [3, 3, 96, 89] = some args_EngineEnds := by kernel_rfl
theorem law_EngineEnds (ds : List D) (h : FitA args_EngineEnds ds) : ∃ sg lo, (lim EE).call n_c_law13_EngineEnds ds [] 0 = some (.b true, sg, lo) := by
 cases h with
 | c h1 k =>
 obtain ⟨n1, rfl, w1⟩ := fits_i h1
 cases k with
 | c h2 k =>
 obtain ⟨n2, rfl, w2⟩ := fits_i h2
 cases k with
 | c h3 k =>
 cases h3 with
 | l sz agg e xs hl hx ha =>
 obtain ⟨is, rfl, hi⟩ := fits_acts xs hx (by simpa using ha)
 cases k with
 | c h4 k =>
 cases h4 with
 | l sz agg e xs hl2 hx2 ha2 =>
 obtain ⟨ps, rfl, hp⟩ := fits_ints xs hx2 (by simpa using ha2)
 cases k
 exact ⟨[], 0, engineEnds n1 n2 is hi ps (by simpa using hl2)⟩
end Go.AM
