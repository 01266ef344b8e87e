/- Lemmas: an abstract machine over the loaded program, proved sound against the model once; what the program's functions compute. -/
import Derived.Test.YtkkglhniofchnaaK4
import Derived.Test.YtkkglhniofchnaaK1
import Derived.Test.YtkkglhniofchnaaK3
import Derived.Test.YtkkglhniofchnaaK2
import Derived.Test.YtkkglhniofchnaaProg
set_option linter.all false
namespace Go.AM
theorem wp_call_e2 {f : FuncId} {F : F} {ds : List D} {sg : List (List D)} {Q : D × List (List D) × Nat → Prop} (hF : EE.fn f = some F) (hn : ds.length = F.np)
    (h : @WC F.body ⟨ini 0 ds, [], sg, sg.length⟩ ⟨fun r => ∃ x, FnQ F.res sg.length x r ∧ Q x⟩ trivial) (hq : decide (f < Q0) = true := by exact rfl) : ∃ x, LL.call f ds sg sg.length = some x ∧ Q x := by
 obtain ⟨r, h1, x, h2, h3⟩ := h
 exact ⟨x, wp_call hF hn ⟨r, h1, h2⟩ hq, h3⟩
def eOl (l : List Rw) : D := .l .z 5 (l.map eRw)
instance : Flat eOl := ⟨fun _ => rfl, fun g => by simp [eOl], fun n g => by simp [eOl]⟩
structure DS where
 sg : List (List D)
 ats : List Nat
 owns : List (Option Nat)
 tds : List D
 cix : List Nat
 cds : List Cll
 ps : List Pt
 st : Nat
 K : K
structure Drv (k : Int) (p i n m bx : Nat) (sg0 : List (List D)) (a : DS) (fs : List (Option FrR)) : Prop where
 mm : a.sg[m]? = some (eMem (memOf a.ps))
 old : ∀ x, x < bx → a.sg[x]? = sg0[x]?
 bm : bx ≤ m
 l1 : a.ats.length = n
 l2 : a.owns.length = n
 l3 : a.tds.length = n
 l4 : a.cix.length = n
 l5 : fs.length = n
 fr : ∀ (j q : Nat), a.owns[j]? = some (some q) → m < q ∧ ∃ f K c, fs[j]? = some (some f) ∧ kOK K f ∧ a.sg[q]? = some (eFrPK K f) ∧ a.tds[j]? = some (eFr (gOf k f)) ∧ a.cix[j]? = some c ∧ c < a.cds.length
 nn : ∀ j : Nat, a.owns[j]? = some none → fs[j]? = some none
 qq : ∀ (i j q : Nat), a.owns[i]? = some (some q) → a.owns[j]? = some (some q) → i = j
 mi : MI k i (memOf a.ps)
 fi : ∀ (j : Nat) f, fs[j]? = some (some f) → FI k i f
 ki : ∀ (j : Nat) f, fs[j]? = some (some f) → KI k p f
 pi : PI k a.ps
 cl : a.cds.length ≤ i
 st : a.st ≤ i
 at8 : ∀ (j x : Nat), a.ats[j]? = some x → x ≤ 8
 zK : zo a.K
 td : ∀ (j : Nat) d, a.tds[j]? = some d → ∃ l, d = .a l ∧ l.length = 17
theorem Drv.mono {k p i n m bx sg0 a fs} (h : Drv k p i n m bx sg0 a fs) : Drv k p (i + 1) n m bx sg0 a fs :=
 {h with mi := h.mi.mono, fi := fun j f hf => (h.fi j f hf).mono, cl := by have := h.cl; omega, st := by have := h.st; omega }
end Go.AM

namespace Go.AM
def eRec (er : Nat) (cs : List Cll) (at_ : List Nat) : List D := .p er 0 :: .l .x 12 (cs.map eCll) :: at_.map eN
theorem c_history_Of (er : Nat) (sg : List (List D)) : LL.call n_history_Of [.p er 0] sg sg.length = some (.p sg.length 0, sg ++ [eRec er [] [0, 0, 0, 0, 0, 0]], sg.length) := by
 refine wp_call e_history_Of rfl ?_
 simp [F_history_Of, eRec, eN]
section
variable (er rc : Nat) (e : Eng) (M : Mem) (fs : List (Option FrR)) (cs : List Cll) (at_ : List Nat) (sg : List (List D)) (hR : Rep sg er e M fs) (hrc : sg[rc]? = some (eRec er cs at_)) (nr : ¬ own er e rc) (h6 : at_.length = 6) (hcs : cs.length ≤ 1000)
include hR hrc nr h6 hcs
theorem c_history_Begin_no (t : Int) (o : Rw) (hb : begO e.k e.cl fs t o ≠ 0) :
    LL.call n_history_Recorder_Begin [.p rc 0, .i .i64 t, eOp o] sg sg.length = some (.i .i64 (begO e.k e.cl fs t o), sg, sg.length) := by
 have B := rep_begin_no hR t o hb
 generalize begO e.k e.cl fs t o = f at *
 have hb' : (f == 0) = false := by simp [hb]
 refine wp_call e_history_Recorder_Begin rfl ?_
 simp [eRec] at hrc
 simp [eOp] at B
 simp [F_history_Recorder_Begin, eOp, hrc, B, hb']
def recC (cs : List Cll) (at_ : List Nat) (n : Nat) (d : Bool) (st : Nat) (a : An) : List Cll × List Nat :=
 match at_[n]? with
 | none => (cs, at_)
 | some k => if d = true ∧ 0 < k then (match cs[k - 1]? with
  | none => (cs, at_)
  | some c => (cs.set (k - 1) { c with e := st, a := a }, at_.set n 0)) else (cs, at_)
theorem c_history_Pick_none (pick : Int) (hb : busyO fs 0 = []) :
    LL.call n_history_Recorder_Pick [.p rc 0, .i .i64 pick] sg sg.length = some (.t [eEv 0 ⟨0, ⟨0, 0⟩, 0, 0⟩ ⟨false, ⟨0, 0⟩, 0⟩ false, .b false], sg, sg.length) := by
 have B := rep_pick_none hR pick hb
 obtain ⟨a0, a1, a2, a3, a4, a5, rfl⟩ := six h6
 refine wp_call e_history_Recorder_Pick rfl ?_
 simp [eRec, eN] at hrc
 simp [eEv] at B
 simp [F_history_Recorder_Pick, hrc, B, eEv]
end
end Go.AM

namespace Go.AM
structure Sn where
 at_ : Int
 c : Cl
def eSn (x : Sn) : D := .a [.i .i64 x.at_, .i .u64 x.c.v, .i .i64 x.c.n, .l .z 2 (x.c.l.map eI)]
instance : Flat eSn := ⟨fun x => by simp [eSn], fun x => by simp [eSn], fun n x => by simp [eSn]⟩
structure Scn where
 tries : Int
 left : Int
 l : List Sn
 at_ : Int
 quiet : Bool
 closed : Bool
def eScn (s : Scn) : List D := [.i .i64 s.tries, .i .i64 s.left, .l .o 4 (s.l.map eSn), .i .i64 s.at_, .b s.quiet, .b s.closed]
structure Sht where
 k : Int
 p : Int
 l : List Sn
 tries : Int
 quiet : Bool
def eSht (s : Sht) : List D := [.i .i64 s.k, .i .i64 s.p, .l .z 4 (s.l.map eSn), .i .i64 s.tries, .b s.quiet]
def eRun (rc : Nat) (sp hp : Option Nat) (t : Int) : List D := [.p rc 0, eFp sp, eFp hp, .i .i64 t]
def nAt (l : List Sn) (j : Nat) : Int := match l[j]? with
 | some x => x.c.n
 | none => 0
def cellsS (k : Int) (p : Nat) (l : List Sn) (i : Nat) : Int × Bool :=
 if k = 2 then (if i < 2 then ((i : Int), true) else (2 + nAt l 0 * (p : Int) + (i : Int) - 2, decide (2 + nAt l 0 * (p : Int) + (i : Int) - 2 < 2 + (nAt l 1 + 1) * (p : Int)) && decide (2 + nAt l 0 * (p : Int) + (i : Int) - 2 < 1000)))
 else if k = 4 then ((i : Int), decide (i < (gatesN p).length + p)) else ((i : Int), decide (i < p))
section
variable (er rc ru q : Nat) (hp : Option Nat) (t : Int) (e : Eng) (cs : List Cll) (at_ : List Nat) (s : Scn) (sg : List (List D)) (h6 : e.th.length = 6) (her : sg[er]? = some (eEng e)) (hrc : sg[rc]? = some (eRec er cs at_)) (hru : sg[ru]? = some (eRun rc (some q) hp t)) (hq : sg[q]? = some (eScn s))
include her hrc hru hq
def failS (s : Scn) (cl : Bool) : Scn := if s.left = 1 then { s with l := [], at_ := -1, left := s.left - 1, quiet := true, closed := cl } else { s with l := [], at_ := -1, left := s.left - 1 }
set_option maxHeartbeats 2000000 in
include h6 in
set_option maxHeartbeats 2000000 in
include h6 in
end
end Go.AM

namespace Go.AM
def startS (sp hp : Option Nat) (n : Int) : Int := if n < 1 ∨ 8 < n then 4 else if sp.isSome || hp.isSome then 11 else 0
def stepS (k : Int) (p : Nat) (M : Mem) (s : Scn) (busy : Int) : Scn × Nat :=
 if s.quiet = true ∧ 0 < busy then (s, 0)
 else if s.at_ < 0 then
  (if (cellsS k p (s.l ++ [⟨(cellsS k p s.l s.l.length).1, rdM M (cellsS k p s.l s.l.length).1⟩]) (s.l.length + 1)).2 then ({ s with l := s.l ++ [⟨(cellsS k p s.l s.l.length).1, rdM M (cellsS k p s.l s.l.length).1⟩] }, 0)
  else ({ s with l := s.l ++ [⟨(cellsS k p s.l s.l.length).1, rdM M (cellsS k p s.l s.l.length).1⟩], at_ := 0 }, if s.quiet then 1 else 0))
 else match s.l[s.at_.toNat]? with
  | none => (s, 0)
  | some x => if (rdM M x.at_).v = x.c.v then ({ s with at_ := s.at_ + 1 }, if s.at_ + 1 = s.l.length then 1 else 0) else (s, 2)
def two2 (k : Int) (l : List Sn) : Prop := k = 2 → 2 ≤ l.length → ∃ a b r, l = a :: b :: r ∧ 0 ≤ a.c.n ∧ a.c.n ≤ 1000000 ∧ 0 ≤ b.c.n ∧ b.c.n ≤ 1000000
section
variable (er rc ru q : Nat) (hp : Option Nat) (t : Int) (e : Eng) (M : Mem) (cs : List Cll) (at_ : List Nat) (s : Scn) (sg : List (List D)) (h6 : e.th.length = 6) (her : sg[er]? = some (eEng e)) (hrc : sg[rc]? = some (eRec er cs at_)) (hru : sg[ru]? = some (eRun rc (some q) hp t)) (hq : sg[q]? = some (eScn s))
 (hm : sg[e.m]? = some (eMem M)) (hM : M.good) (hd1 : q ≠ er) (hd2 : q ≠ rc) (hd3 : q ≠ ru) (hd4 : er ≠ ru) (hd5 : er ≠ rc) (hd6 : rc ≠ ru) (hd7 : q ≠ e.m) (hl : legal e.k e.p = 0)
include h6 her hrc hru hq hm hM hd1 hd2 hd3 hd4 hd5 hd6 hd7 hl
end
end Go.AM

namespace Go.AM
theorem callrv_set (OO : Or) (f : FuncId) (ds : List D) (r : Nat) (sg : List (List D)) (l : List D) : callrv OO f ds r (sg.set r l) = callrv OO f ds r sg := by
 unfold callrv; rw [List.set_set]
section
variable (er rc : Nat) (e : Eng) (M : Mem) (fs : List (Option FrR)) (cs : List Cll) (at_ : List Nat) (sg : List (List D)) (hR : Rep sg er e M fs) (hrc : sg[rc]? = some (eRec er cs at_)) (nr : ¬ own er e rc) (h6 : at_.length = 6) (hcs : cs.length ≤ 1000)
include hR hrc nr h6 hcs
set_option maxHeartbeats 2000000 in
theorem c_history_Begin (t : Int) (o : Rw) (hb : begO e.k e.cl fs t o = 0) :
    ∃ sg' e', LL.call n_history_Recorder_Begin [.p rc 0, .i .i64 t, eOp o] sg sg.length = some (.i .i64 0, sg', er) ∧ sg'.length = sg.length + 1 ∧ 0 ≤ t ∧ t < 6 ∧
     Rep sg' er e' M (fs.set t.toNat (some (begF o))) ∧ sg'[rc]? = some (eRec er (cs ++ [⟨t.toNat, o, e.st, -1, noA⟩]) (at_.set t.toNat (cs.length + 1))) ∧ e'.k = e.k ∧ e'.p = e.p ∧ e'.m = e.m ∧ e'.cl = e.cl ∧ e'.st = e.st ∧
     (∀ x, x < sg.length → x ≠ er → x ≠ rc → sg'[x]? = sg[x]?) ∧ (∀ (i q : Nat), e'.th[i]? = some (some q) → e.th[i]? = some (some q) ∨ q = sg.length) := by
 obtain ⟨sg1, e', A1, A2, A3, A4, A5, A6, A7, A8, A9, A10⟩ := rep_begin hR t o hb
 have hrl := get_lt hrc
 have hre : rc ≠ er := fun e => nr (.inl e)
 have hel : er < sg.length := hR.lt (.inl rfl)
 have h1 : sg1[rc]? = some (eRec er cs at_) := by rw [A9 rc hrl hre]; exact hrc
 have St : callrv LL n_engine_Engine_Steps [.p er 0] rc sg1 = some (.i .i64 e.st) := by
  have := c_engine_Steps e' (sg1.set rc []) er (by rw [List.getElem?_set_ne hre]; exact A3.hr) A3.h6
  rw [A8] at this
  exact callrv_of this
 have ht : 0 ≤ t ∧ t < 6 := by
  unfold begO at hb
  split at hb
  ·cases hb
  ·omega
 obtain ⟨n, hn⟩ : ∃ n : Nat, t = n := ⟨t.toNat, by omega⟩
 subst hn
 have w1 : IntKind.i64.wrap ((cs.length : Int) + 1) = ((cs.length + 1 : Nat) : Int) := wrap64 (by omega)
 have hap : (cs.length + 1) * 96 ≤ 140737488355328 := by omega
 have hn6 : n < at_.length := by omega
 have hn6' : (n : Int) < 6 := ht.2
 obtain ⟨sg', hsg'⟩ : ∃ s, s = sg1.set rc (eRec er (cs ++ [⟨n, o, e.st, -1, noA⟩]) (at_.set n (cs.length + 1))) := ⟨_, rfl⟩
 have nr' : ¬ own er e' rc := by
  rintro (h | h | ⟨j, h⟩)
  ·exact nr (.inl h)
  ·rw [A6] at h; exact nr (.inr (.inl h))
  ·rcases A10 j rc h with h | h
   ·exact nr (.inr (.inr ⟨j, h⟩))
   ·omega
 refine ⟨sg', e', ?_, by rw [hsg']; simp [A2], ht.1, ht.2, ?_, by rw [hsg']; simp; exact List.getElem?_set_self (by omega), A4, A5, A6, A7, A8, fun x hx1 hx2 hx3 => ?_, A10⟩
 ·obtain ⟨a0, a1, a2, a3, a4, a5, rfl⟩ := six h6
  have hmin : min sg.length er = er := by omega
  have hnl : ¬ sg.length ≤ er := by omega
  have hc : n = 0 ∨ n = 1 ∨ n = 2 ∨ n = 3 ∨ n = 4 ∨ n = 5 := by omega
  have hg : ∀ l : List D, (sg1.set rc l)[rc]? = some l := fun l => List.getElem?_set_self (by omega)
  simp [eRec] at hrc h1 hsg'
  rcases hc with rfl | rfl | rfl | rfl | rfl | rfl
  all_goals
   refine wp_call e_history_Recorder_Begin rfl ?_
   simp [eOp] at A1
   simp [eCll, noA, eN] at hsg'
   simp [eN] at h1
   simp [F_history_Recorder_Begin, eOp, hrc, A1, h1, St, callrv_set, w1, hap, A2, hmin, hnl, eN, hg, hsg', eCll, noA]
   done
 ·rw [hsg']
  exact A3.keep (fun y hy => List.getElem?_set_ne (fun e => nr' (by rw [e]; exact hy)))
 ·rw [hsg', List.getElem?_set_ne (Ne.symm hx3)]; exact A9 x hx1 hx2
set_option maxHeartbeats 4000000 in
set_option maxRecDepth 8000 in
theorem c_history_Pick (s : Nat) (hs : s ≤ 5000) (hl : legal e.k e.p = 0) (hst : e.st < 1000000000) (hM : MI e.k s M) (hF : ∀ (i : Nat) f, fs[i]? = some (some f) → FI e.k s f) (hat : ∀ x ∈ at_, x ≤ cs.length)
    (pick : Int) (k : Nat) (hk : pickL (busyO fs 0) pick = some k) (f : FrR) (hf : fs[k]? = some (some f)) :
    ∃ sg' e', LL.call n_history_Recorder_Pick [.p rc 0, .i .i64 pick] sg sg.length = some (.t [eEv k f.o (stepP e.k e.p M f).a (stepP e.k e.p M f).d, .b true], sg', sg.length) ∧ sg'.length = sg.length ∧
     Rep sg' er e' (stepP e.k e.p M f).m (fs.set k (if (stepP e.k e.p M f).d then none else some (stepP e.k e.p M f).f)) ∧
     sg'[rc]? = some (eRec er (recC cs at_ k (stepP e.k e.p M f).d e.st (stepP e.k e.p M f).a).1 (recC cs at_ k (stepP e.k e.p M f).d e.st (stepP e.k e.p M f).a).2) ∧ e'.k = e.k ∧ e'.p = e.p ∧ e'.m = e.m ∧ e'.cl = e.cl ∧ e'.st = e.st + 1 ∧
     (∀ x, ¬ own er e x → x ≠ rc → sg'[x]? = sg[x]?) ∧ (∀ (i q : Nat), e'.th[i]? = some (some q) → e.th[i]? = some (some q)) := by
 obtain ⟨sg1, e', A1, A2, A3, A4, A5, A6, A7, A8, A9, A10⟩ := rep_pick hR s hs hl hst hM hF pick k hk f hf
 generalize stepP e.k e.p M f = so at *
 have h1 : sg1[rc]? = some (eRec er cs at_) := by rw [A9 rc nr]; exact hrc
 have hre : rc ≠ er := fun e => nr (.inl e)
 have St : callrv LL n_engine_Engine_Steps [.p er 0] rc sg1 = some (.i .i64 ((e.st + 1 : Nat) : Int)) := by
  have := c_engine_Steps e' (sg1.set rc []) er (by rw [List.getElem?_set_ne hre]; exact A3.hr) A3.h6
  rw [A8] at this
  exact callrv_of this
 have hk6 : k < 6 := by have := (List.getElem?_eq_some_iff.1 hf).1; have := hR.f6; omega
 obtain ⟨ak, hak⟩ : ∃ ak, at_[k]? = some ak := ⟨at_[k], List.getElem?_eq_getElem (by omega)⟩
 have hak2 := hat ak (List.mem_of_getElem? hak)
 have nr' : ¬ own er e' rc := by
  rintro (h | h | ⟨j, h⟩)
  ·exact nr (.inl h)
  ·rw [A6] at h; exact nr (.inr (.inl h))
  ·exact nr (.inr (.inr ⟨j, A10 j rc h⟩))
 have hrl1 := get_lt h1
 have hrl := get_lt hrc
 by_cases hw : so.d = true ∧ 0 < ak
 ·obtain ⟨c, hc⟩ : ∃ c, cs[ak - 1]? = some c := ⟨cs[ak - 1], List.getElem?_eq_getElem (by omega)⟩
  have er1 : recC cs at_ k so.d e.st so.a = (cs.set (ak - 1) { c with e := e.st, a := so.a }, at_.set k 0) := by
   unfold recC; rw [hak]; simp only; rw [if_pos hw, hc]
  rw [er1]
  have hcl : ak - 1 < cs.length := by omega
  have hcg : cs[ak - 1] = c := by rw [List.getElem?_eq_getElem hcl] at hc; exact Option.some.inj hc
  obtain ⟨sg', hsg'⟩ : ∃ s, s = sg1.set rc (eRec er (cs.set (ak - 1) { c with e := e.st, a := so.a }) (at_.set k 0)) := ⟨_, rfl⟩
  refine ⟨sg', e', ?_, by rw [hsg']; simp [A2], ?_, by rw [hsg']; exact List.getElem?_set_self (by omega), A4, A5, A6, A7, A8, fun x hx1 hx2 => ?_, A10⟩
  ·have w1 : IntKind.i64.wrap ((ak : Int) - 1) = ((ak - 1 : Nat) : Int) := by rw [wrap64 (by omega)]; omega
   have w2 : IntKind.i64.wrap (((e.st + 1 : Nat) : Int) - 1) = e.st := by rw [wrap64 (by omega)]; omega
   have w2' : IntKind.i64.wrap (((e.st : Int) + 1) - 1) = e.st := by rw [wrap64 (by omega)]; omega
   have w3 : IntKind.i64.wrap (e.st : Int) = e.st := wrap64 (by omega)
   have hd := hw.1
   have hpos : (0 : Int) < ak := by omega
   have hpos0 := hw.2
   have hg1 : ∀ l : List D, (sg1.set rc l)[rc]? = some l := fun l => List.getElem?_set_self hrl1
   obtain ⟨a0, a1, a2, a3, a4, a5, rfl⟩ := six h6
   have hc6 : k = 0 ∨ k = 1 ∨ k = 2 ∨ k = 3 ∨ k = 4 ∨ k = 5 := by omega
   rw [hd] at A1 ⊢
   simp [eRec, eCll, eN] at hrc h1 hsg'
   rcases hc6 with rfl | rfl | rfl | rfl | rfl | rfl
   all_goals
    simp at hak
    subst hak
    refine wp_call e_history_Recorder_Pick rfl ?_
    simp [eEv] at A1
    simp [eN] at hsg'
    simp [F_history_Recorder_Pick, hrc, A1, h1, hg1, St, callrv_set, w1, w2, w2', w3, A2, eN, hpos, hpos0, hcl, hcg, hc, eCll, hsg', eEv]
    exact List.take_of_length_le (by simp [A2])
  ·rw [hsg']
   exact A3.keep (fun y hy => List.getElem?_set_ne (fun e => nr' (by rw [e]; exact hy)))
  ·rw [hsg', List.getElem?_set_ne (Ne.symm hx2)]; exact A9 x hx1
 ·have er1 : recC cs at_ k so.d e.st so.a = (cs, at_) := by
   unfold recC; rw [hak]; simp only; rw [if_neg hw]
  rw [er1]
  refine ⟨sg1, e', ?_, A2, A3, h1, A4, A5, A6, A7, A8, fun x hx1 hx2 => A9 x hx1, A10⟩
  obtain ⟨a0, a1, a2, a3, a4, a5, rfl⟩ := six h6
  have hc6 : k = 0 ∨ k = 1 ∨ k = 2 ∨ k = 3 ∨ k = 4 ∨ k = 5 := by omega
  have hw' : so.d = false ∨ (so.d = true ∧ ¬ (0 : Int) < ak) := by
   cases hd : so.d with
   | false => exact .inl rfl
   | true => exact .inr ⟨rfl, fun h => hw ⟨hd, by omega⟩⟩
  have htk : List.take sg.length sg1 = sg1 := List.take_of_length_le (by omega)
  simp [eRec, eN] at hrc h1
  rcases hc6 with rfl | rfl | rfl | rfl | rfl | rfl
  all_goals
   simp at hak
   subst hak
   refine wp_call e_history_Recorder_Pick rfl ?_
   simp [eEv] at A1
   rcases hw' with hd | ⟨hd, hpos⟩
   ·simp [hd] at A1
    simp [F_history_Recorder_Pick, hrc, A1, h1, A2, eN, eEv, hd, htk]
    done
   ·simp [hd] at A1
    have hpos' : ¬ 0 < _ := fun h => hpos (Int.ofNat_lt.2 h)
    simp [F_history_Recorder_Pick, hrc, A1, h1, A2, eN, hpos, hpos', eEv, hd, htk]
    done
end
section
variable (er rc ru q : Nat) (hp : Option Nat) (t : Int) (e : Eng) (M : Mem) (cs : List Cll) (at_ : List Nat) (s : Scn) (sg : List (List D)) (h6 : e.th.length = 6) (her : sg[er]? = some (eEng e)) (hrc : sg[rc]? = some (eRec er cs at_)) (hru : sg[ru]? = some (eRun rc (some q) hp t)) (hq : sg[q]? = some (eScn s))
 (hm : sg[e.m]? = some (eMem M)) (hM : M.good) (hd1 : q ≠ er) (hd2 : q ≠ rc) (hd3 : q ≠ ru) (hd4 : er ≠ ru) (hd5 : er ≠ rc) (hd6 : rc ≠ ru) (hd7 : q ≠ e.m) (hl : legal e.k e.p = 0)
include h6 her hrc hru hq hm hM hd1 hd2 hd3 hd4 hd5 hd6 hd7 hl
end
end Go.AM

namespace Go.AM
structure RnS where
 k : Int
 p : Nat
 M : Mem
 fs : List (Option FrR)
 cl : Bool
 st : Nat
 cs : List Cll
 ats : List Nat
 sc : Option Scn
 sh : Option Sht
 tk : Nat
structure ScI (k : Int) (p : Nat) (s : Scn) : Prop where
 tr : 1 ≤ s.tries ∧ s.tries ≤ 8
 lf : 0 ≤ s.left ∧ s.left ≤ 8
 lq : s.quiet = false → 1 ≤ s.left
 ln : s.l.length ≤ 1000
 nn : ∀ y ∈ s.l, k = 2 → 0 ≤ y.c.n ∧ y.c.n ≤ 1000000
 neg : s.at_ < 0 → s.at_ = -1 ∧ (s.l = [] ∨ (cellsS k p s.l s.l.length).2 = true)
 pos : 0 ≤ s.at_ → s.at_ < s.l.length ∧ s.quiet = false
structure RI (i : Nat) (x : RnS) : Prop where
 leg : legal x.k x.p = 0
 st : x.st ≤ i
 mi : MI x.k i x.M
 fi : ∀ (j : Nat) f, x.fs[j]? = some (some f) → FI x.k i f
 cs : x.cs.length ≤ i
 a6 : x.ats.length = 6
 al : ∀ a ∈ x.ats, a ≤ x.cs.length
 tk : x.tk ≤ i + 1
 sc : ∀ s, x.sc = some s → ScI x.k x.p s
 one : x.sc = none ∨ x.sh = none
theorem ScI.two {k p s} (h : ScI k p s) : two2 k s.l := by
 intro hk hl
 match hs : s.l, hl with
 | a :: b :: r, _ =>
  have h1 := h.nn a (by rw [hs]; simp) hk
  have h2 := h.nn b (by rw [hs]; simp) hk
  exact ⟨a, b, r, rfl, h1.1, h1.2, h2.1, h2.2⟩
theorem cells_lt {k : Int} {p : Nat} (hp : p ≤ 16) {l : List Sn} (h0 : k = 2 → 0 ≤ nAt l 0) {i : Nat} (h : (cellsS k p l i).2 = true) (hg : k = 4 → (gatesN p).length ≤ 900) : i < 1000 := by
 unfold cellsS at h
 split at h
 ·rename_i hk
  split at h
  ·omega
  ·simp only [Bool.and_eq_true, decide_eq_true_eq] at h
   have h1 := h0 hk
   have : 0 ≤ nAt l 0 * (p : Int) := Int.mul_nonneg h1 (by omega)
   omega
 ·split at h
  ·rename_i h4; have := hg h4; simp at h; omega
  ·simp at h; omega
theorem gates900 (p : Nat) (hw : widthN p) : (gatesN p).length ≤ 900 := by
 rcases hw with rfl | rfl | rfl | rfl | rfl <;> decide
def begN (x : RnS) (t : Int) (o : Rw) : RnS × Int :=
 if begO x.k x.cl x.fs t o = 0 then ({ x with fs := x.fs.set t.toNat (some (begF o)), cs := x.cs ++ [⟨t.toNat, o, x.st, -1, noA⟩], ats := x.ats.set t.toNat (x.cs.length + 1) }, 0)
 else (x, begO x.k x.cl x.fs t o)
def pickE (x : RnS) (n : Nat) (f : FrR) : RnS :=
 {x with M := (stepP x.k x.p x.M f).m, fs := x.fs.set n (if (stepP x.k x.p x.M f).d then none else some (stepP x.k x.p x.M f).f), st := x.st + 1,
         cs := (recC x.cs x.ats n (stepP x.k x.p x.M f).d x.st (stepP x.k x.p x.M f).a).1, ats := (recC x.cs x.ats n (stepP x.k x.p x.M f).d x.st (stepP x.k x.p x.M f).a).2 }
def shotS (x : RnS) (s s' : Scn) : Sht := ⟨x.k, x.p, s'.l, if s.quiet then s.tries else s.tries - s.left + 1, s.quiet⟩
def stepN (x : RnS) (s : Scn) (busy : Nat) : RnS :=
 if (stepS x.k x.p x.M s busy).2 = 0 then { x with sc := some (stepS x.k x.p x.M s busy).1 }
 else if (stepS x.k x.p x.M s busy).2 = 1 then { x with sc := none, sh := some (shotS x s (stepS x.k x.p x.M s busy).1), cl := if s.quiet && !s.closed then false else x.cl }
 else { x with sc := some (failS s x.cl), cl := if s.left = 1 then true else x.cl }
def whoN (x : RnS) (pick : Int) : Option (Nat × FrR) :=
 match pickL (busyO x.fs 0) (match x.sc with | none => pick | some _ => into pick ((busyO x.fs 0).length + 1)) with
 | none => none
 | some n => match x.fs[n]? with
  | some (some f) => if x.sc.isSome = true ∧ ¬ into pick ((busyO x.fs 0).length + 1) < (busyO x.fs 0).length then none else some (n, f)
  | _ => none
def pickN (x : RnS) (pick : Int) : RnS := match whoN x pick with
 | some (n, f) => { pickE x n f with tk := x.tk + 1 }
 | none => match x.sc with
  | none => x
  | some s => { stepN x s (busyO x.fs 0).length with tk := x.tk + 1 }
def gatN (x : RnS) (b : Bool) : RnS := match x.sc with
 | none => { x with cl := b }
 | some s => if s.quiet then { x with sc := some { s with closed := b } } else { x with cl := b }
def startN (x : RnS) (n : Int) : RnS × Int :=
 if n < 1 ∨ 8 < n then (x, 4) else if x.sc.isSome || x.sh.isSome then (x, 11) else ({ x with sc := some ⟨n, n, [], -1, false, false⟩ }, 0)
def quietN (x : RnS) : Bool := match x.sc with
 | none => false
 | some s => s.quiet
theorem RI.mono {i x} (h : RI i x) : RI (i + 1) x :=
 {h with st := by have := h.st; omega, mi := h.mi.mono, fi := fun j f hf => (h.fi j f hf).mono, cs := by have := h.cs; omega, tk := by have := h.tk; omega }
theorem setN {P : FrR → Prop} {fs : List (Option FrR)} {n : Nat} {o : Option FrR} (h : ∀ (j : Nat) f, fs[j]? = some (some f) → P f) (ho : ∀ f, o = some f → P f) : ∀ (j : Nat) f, (fs.set n o)[j]? = some (some f) → P f := by
 intro j f hf
 rw [List.getElem?_set] at hf
 split at hf
 ·split at hf
  ·injection hf with hf; exact ho f hf
  ·cases hf
 ·exact h j f hf
theorem recC_len (cs : List Cll) (ats : List Nat) (n : Nat) (d : Bool) (st : Nat) (a : An) : (recC cs ats n d st a).1.length = cs.length ∧ (recC cs ats n d st a).2.length = ats.length := by
 unfold recC
 split
 ·exact ⟨rfl, rfl⟩
 ·split
  ·split
   ·exact ⟨rfl, rfl⟩
   ·simp
  ·exact ⟨rfl, rfl⟩
theorem recC_at {cs : List Cll} {ats : List Nat} {m : Nat} (h : ∀ a ∈ ats, a ≤ m) (n : Nat) (d : Bool) (st : Nat) (a : An) : ∀ y ∈ (recC cs ats n d st a).2, y ≤ m := by
 unfold recC
 split
 ·exact h
 ·split
  ·split
   ·exact h
   ·intro y hy
    rcases List.mem_or_eq_of_mem_set hy with hy | rfl
    ·exact h y hy
    ·omega
  ·exact h
theorem RI.beg {i x} (h : RI i x) (t : Int) (o : Rw) (ho : FI x.k (i + 1) (begF o)) : RI (i + 1) (begN x t o).1 := by
 unfold begN
 split
 ·exact { h.mono with
   fi := setN (P := fun f => FI x.k (i + 1) f) (fun j f hf => (h.fi j f hf).mono) (fun f hf => by injection hf with hf; subst hf; exact ho)
   cs := by have := h.cs; simp; omega
   a6 := by simp [h.a6]
   al := fun a ha => by
    rcases List.mem_or_eq_of_mem_set ha with ha | rfl
    ·have := h.al a ha; simp; omega
    ·simp }
 ·exact h.mono
theorem RI.pickE {i x n f} (h : RI i x) (hi : i ≤ 5000) (hf : x.fs[n]? = some (some f)) : RI (i + 1) { pickE x n f with tk := x.tk + 1 } := by
 have S := si_step h.leg h.mi (h.fi n f hf) hi
 refine { h.mono with st := ?_, mi := S.m, fi := ?_, cs := ?_, a6 := ?_, al := ?_, tk := ?_ }
 ·have := h.st; simp only [AM.pickE]; omega
 ·refine setN (P := fun f => FI x.k (i + 1) f) (fun j f hf => (h.fi j f hf).mono) (fun g hg => ?_)
  split at hg
  ·cases hg
  ·rename_i hd; injection hg with hg; subst hg; exact S.f (by simpa using hd)
 ·have := h.cs; simp only [AM.pickE, (recC_len _ _ _ _ _ _).1]; omega
 ·simp only [AM.pickE, (recC_len _ _ _ _ _ _).2]; exact h.a6
 ·simp only [AM.pickE, (recC_len _ _ _ _ _ _).1]
  exact recC_at h.al _ _ _ _
 ·have := h.tk; simp only; omega
theorem nAt_nn {k : Int} {l : List Sn} (h : ∀ y ∈ l, k = 2 → 0 ≤ y.c.n ∧ y.c.n ≤ 1000000) (hk : k = 2) (j : Nat) : 0 ≤ nAt l j := by
 unfold nAt
 split
 ·rename_i x hx; exact (h x (List.mem_of_getElem? hx) hk).1
 ·omega
theorem ScI.len {k : Int} {p : Nat} {s} (hl : legal k p = 0) (h : ScI k p s) (ha : s.at_ < 0) : s.l.length < 1000 := by
 have hp := legal_p hl
 rcases (h.neg ha).2 with h0 | h0
 ·rw [h0]; simp
 ·exact cells_lt (by omega) (fun hk => nAt_nn h.nn hk 0) h0 (fun h4 => gates900 p (by subst h4; exact legal_width hl))
theorem RI.gate {i x} (h : RI i x) (b : Bool) : RI (i + 1) (gatN x b) := by
 unfold gatN
 split
 ·exact { h.mono with sc := h.sc }
 ·rename_i s hs
  split
  ·refine { h.mono with sc := fun s' e => ?_, one := .inr (by rcases h.one with e | e; rw [hs] at e; cases e; exact e) }
   injection e with e; subst e
   have S := h.sc s hs
   exact ⟨S.tr, S.lf, S.lq, S.ln, S.nn, S.neg, S.pos⟩
  ·exact { h.mono with sc := h.sc }
theorem RI.take {i x} (h : RI i x) : RI (i + 1) { x with sh := none } := { h.mono with sc := h.sc, one := .inr rfl }
end Go.AM

namespace Go.AM
def ownN (er rc ru : Nat) (e : Eng) (sp : Option Nat) (y : Nat) : Prop := own er e y ∨ y = rc ∨ y = ru ∨ sp = some y
structure RR (er rc ru : Nat) (sg : List (List D)) (x : RnS) (e : Eng) (sp hp : Option Nat) : Prop where
 R : Rep sg er e x.M x.fs
 ek : e.k = x.k
 ep : e.p = x.p
 ecl : e.cl = x.cl
 est : e.st = x.st
 hrc : sg[rc]? = some (eRec er x.cs x.ats)
 hru : sg[ru]? = some (eRun rc sp hp x.tk)
 dc : ¬ own er e rc
 du : ¬ own er e ru
 dcu : rc ≠ ru
 sp0 : sp = none → x.sc = none
 sp1 : ∀ q, sp = some q → ∃ s, x.sc = some s ∧ sg[q]? = some (eScn s) ∧ ¬ own er e q ∧ q ≠ rc ∧ q ≠ ru
 hp0 : hp = none → x.sh = none
 hp1 : ∀ h, hp = some h → ∃ s, x.sh = some s ∧ sg[h]? = some (eSht s) ∧ ¬ own er e h ∧ h ≠ rc ∧ h ≠ ru
structure Fr (P Q : Nat → Prop) (sg sg' : List (List D)) : Prop where
 len : sg.length ≤ sg'.length
 same : ∀ y, y < sg.length → ¬ P y → sg'[y]? = sg[y]?
 own : ∀ y, y < sg.length → Q y → P y
theorem Fr.trans {P Q R : Nat → Prop} {a b c : List (List D)} (h : Fr P Q a b) (k : Fr Q R b c) : Fr P R a c :=
 ⟨Nat.le_trans h.len k.len, fun y hy hn => by
  have hb : y < b.length := Nat.lt_of_lt_of_le hy h.len
  rw [k.same y hb (fun hq => hn (h.own y hy hq)), h.same y hy hn], fun y hy hr => h.own y hy (k.own y (Nat.lt_of_lt_of_le hy h.len) hr)⟩
theorem RR.lc {er rc ru sg x e sp hp} (h : RR er rc ru sg x e sp hp) : rc < sg.length := get_lt h.hrc
theorem RR.le {er rc ru sg x e sp hp} (h : RR er rc ru sg x e sp hp) : er < sg.length := get_lt h.R.hr
def Tkn (sg sg' : List (List D)) (lo : Nat) : Prop := lo < sg.length ∨ sg'.length = sg.length
theorem Tkn.tk {sg sg' : List (List D)} {lo : Nat} (h : Tkn sg sg' lo) {n : Nat} (hn : n = sg.length) (hl : n ≤ lo) : sg'.take n = sg' := by
 subst hn
 rcases h with h | h
 ·omega
 ·exact List.take_of_length_le (by omega)
end Go.AM

namespace Go.AM
theorem Rep.gate {sg r e M fs} (h : Rep sg r e M fs) (b : Bool) : Rep (sg.set r (eEng { e with cl := b })) r { e with cl := b } M fs := by
 have hl := get_lt h.hr
 refine ⟨List.getElem?_set_self hl, by rw [List.getElem?_set_ne (Ne.symm h.rm)]; exact h.hm, h.h6, h.f6, fun i q hq => ?_, h.nn, h.rm, h.qr, h.qq⟩
 obtain ⟨f, K, a, b, c⟩ := h.fr i q hq
 exact ⟨f, K, a, b, by rw [List.getElem?_set_ne (Ne.symm (h.qr i q hq).1)]; exact c⟩
end Go.AM

namespace Go.AM
def evN (x : RnS) (pick : Int) : D × Bool := match whoN x pick with
 | some (n, f) => (eEv n f.o (stepP x.k x.p x.M f).a (stepP x.k x.p x.M f).d, true)
 | none => match x.sc with
  | none => (eEv 0 ⟨0, ⟨0, 0⟩, 0, 0⟩ ⟨false, ⟨0, 0⟩, 0⟩ false, false)
  | some _ => (.a [.i .i64 (-1), .i .i64 0, .f .f64 0, .i .i64 0, .i .i64 0, .i .i64 0, .b false, .b false, .f .f64 0, .i .i64 0, .i .i64 0], true)
theorem pickL_nil (pick : Int) : pickL [] pick = none := rfl
end Go.AM

namespace Go.AM
def rn0 (k : Int) (p : Nat) : RnS := ⟨k, p, ⟨[], 0⟩, [none, none, none, none, none, none], false, 0, [], [0, 0, 0, 0, 0, 0], none, none, 0⟩
theorem nn6 : ∀ (i : Nat) (q : Nat), ([none, none, none, none, none, none] : List (Option Nat))[i]? ≠ some (some q) := by
 intro i q h
 have : i = 0 ∨ i = 1 ∨ i = 2 ∨ i = 3 ∨ i = 4 ∨ i = 5 ∨ 6 ≤ i := by omega
 rcases this with rfl | rfl | rfl | rfl | rfl | rfl | h6 <;> first | (simp at h; done) | (rw [List.getElem?_eq_none (by simpa using h6)] at h; cases h)
theorem nf6 : ∀ (i : Nat) (q : FrR), ([none, none, none, none, none, none] : List (Option FrR))[i]? ≠ some (some q) := by
 intro i q h
 have : i = 0 ∨ i = 1 ∨ i = 2 ∨ i = 3 ∨ i = 4 ∨ i = 5 ∨ 6 ≤ i := by omega
 rcases this with rfl | rfl | rfl | rfl | rfl | rfl | h6 <;> first | (simp at h; done) | (rw [List.getElem?_eq_none (by simpa using h6)] at h; cases h)
theorem n06 : ∀ i : Nat, ([none, none, none, none, none, none] : List (Option Nat))[i]? = some none → ([none, none, none, none, none, none] : List (Option FrR))[i]? = some none := by
 intro i h
 have hi : i < 6 := (List.getElem?_eq_some_iff.1 h).1
 have : i = 0 ∨ i = 1 ∨ i = 2 ∨ i = 3 ∨ i = 4 ∨ i = 5 := by omega
 rcases this with rfl | rfl | rfl | rfl | rfl | rfl <;> rfl
theorem mi0 (k : Int) (i : Nat) : MI k i ⟨[], 0⟩ := by
 have z : ∀ i : Int, rdM ⟨[], 0⟩ i = zC := by intro i; simp [rdM]
 exact ⟨good_nil, by simp, fun j => by simp [z, zC]; exact (nb_le k i).1, fun _ i _ h => by simp [z, zC] at h⟩
theorem ri0 {k : Int} {p : Nat} (hl : legal k p = 0) : RI 0 (rn0 k p) :=
 ⟨hl, by simp [rn0], mi0 k 0, fun j f h => absurd h (nf6 j f), by simp [rn0], rfl, by simp [rn0], by simp [rn0], fun s h => by simp [rn0] at h, .inl rfl⟩
end Go.AM

namespace Go.AM
def eC1 (t b e : Int) : D := .a [.i .i64 t, .i .i64 0, .f .f64 0, .i .i64 0, .i .i64 0, .i .i64 0, .i .i64 b, .i .i64 e, .b false, .f .f64 0, .i .i64 0, .i .i64 0]
def chk1c (t b e : Int) : Int := if t < 0 ∨ 6 ≤ t then 4 else if b < 0 ∨ e < -1 ∨ (0 ≤ e ∧ e < b) then 14 else 0
def lax1 (k p t b e : Int) : Int × Int × Int := if legal k p ≠ 0 then (0, -1, legal k p) else if chk1c t b e ≠ 0 then (0, -1, chk1c t b e) else if e < 0 then (k, -1, 0) else (k, 0, 12)
end Go.AM

namespace Go.AM
theorem wc_upb {β : Type} {B : C} {Q : Rs → Prop} (n : Nat) (st : Nat → β → St) (P : Nat → β → Prop)
    (h : ∀ i b, i < n → P i b → (∀ b', P (i + 1) b' → @WC (.loop B) (st (i + 1) b') ⟨Q⟩ trivial) → @WC B (st i b) ⟨fun r => @SqQ (.loop B) ⟨Q⟩ r trivial⟩ trivial)
    (he : ∀ b, P n b → @WC B (st n b) ⟨fun r => @SqQ (.loop B) ⟨Q⟩ r trivial⟩ trivial) : ∀ b, P 0 b → @WC (.loop B) (st 0 b) ⟨Q⟩ trivial := by
 intro b hb
 refine wc_ind (fun a : Nat × β => st a.1 a.2) (fun a => n - a.1) (fun a => a.1 ≤ n ∧ P a.1 a.2) ?_ (0, b) ⟨by simp, hb⟩
 rintro ⟨i, b⟩ ⟨h1, h2⟩ ih
 simp only at h1 h2 ih ⊢
 rcases Nat.lt_or_eq_of_le h1 with h3 | h3
 ·exact h i b h3 h2 (fun b' hb' => ih (i + 1, b') (by simp; omega) ⟨by omega, hb'⟩)
 ·subst h3; exact he b h2
structure Cls (l : List Cll) : Prop where
 t : ∀ c ∈ l, c.t < 6
 b : ∀ c ∈ l, 0 ≤ c.b ∧ (c.e = -1 ∨ c.b < c.e) ∧ c.e ≤ 100000
 o : ∀ (i : Nat) c d, l[i]? = some c → l[i + 1]? = some d → c.b ≤ d.b
 e : ∀ (i j : Nat) c d, i < j → l[i]? = some c → l[j]? = some d → 0 ≤ c.e → 0 ≤ d.e → c.e < d.e
 n : l.length ≤ 1000
structure Clw (l : List Cll) : Prop where
 t : ∀ c ∈ l, c.t < 6
 b : ∀ c ∈ l, 0 ≤ c.b ∧ (c.e = -1 ∨ c.b ≤ c.e) ∧ c.e ≤ 100000
 o : ∀ (i : Nat) c d, l[i]? = some c → l[i + 1]? = some d → c.b ≤ d.b
 e : ∀ (i j : Nat) c d, i < j → l[i]? = some c → l[j]? = some d → 0 ≤ c.e → 0 ≤ d.e → c.e ≠ d.e
 n : l.length ≤ 1000
theorem Cls.w {l : List Cll} (h : Cls l) : Clw l :=
 ⟨h.t, fun c hc => ⟨(h.b c hc).1, by have := (h.b c hc).2.1; omega, (h.b c hc).2.2⟩, h.o, fun i j c d hl hc hd h0 h1 => by have := h.e i j c d hl hc hd h0 h1; omega, h.n⟩
def pairC (d c : Cll) : Prop := d.t = c.t ∧ ¬ (0 ≤ d.e ∧ d.e < c.b)
instance (d c : Cll) : Decidable (pairC d c) := by unfold pairC; infer_instance
def badC (l : List Cll) : Prop := ∃ (i j : Nat) (d c : Cll), i < j ∧ l[i]? = some d ∧ l[j]? = some c ∧ pairC d c
theorem c_history_Ahead (c d : Cll) (sg) : LL.call n_history_Call_Ahead [eCll c, eCll d] sg sg.length = some (.b (decide (0 ≤ c.e ∧ c.e < d.b)), sg, sg.length) := by
 refine wp_call e_history_Call_Ahead rfl ?_
 by_cases h1 : 0 ≤ c.e
 ·by_cases h2 : c.e < d.b
  ·simp [F_history_Call_Ahead, eCll, h1, h2]
  ·simp [F_history_Call_Ahead, eCll, h1, h2]
 ·simp [F_history_Call_Ahead, eCll, h1]
def eP (c : Cll) : D := .a [.i .i64 c.t, .i .i64 c.b, .i .i64 c.e]
instance : Flat eP := ⟨fun _ => rfl, fun _ => rfl, fun _ _ => rfl⟩
section
variable (l : List Cll) (H : Clw l) (T : Int) (hB : badC l → T = 14) (hG : ¬ badC l → T = 0) (sg : List (List D))
include H hB hG
set_option maxHeartbeats 4000000 in
theorem c_history_CheckL : LL.call n_history_Check [.l .z 12 (l.map eCll)] sg sg.length = some (.i .i64 T, sg, sg.length) := by
 refine wp_call e_history_Check rfl ?_
 simp [F_history_Check]
 refine wc_up l.length (fun i => ⟨[(0, .v (.l .z 12 (l.map eCll))), (7, .v (.l .z 12 (l.map eCll))), (8, .v (.i .i64 l.length)), (9, .v (.i .i64 i))], [], sg, sg.length⟩)
  (fun i => ∀ (k j : Nat) d c, k < j → j < i → l[k]? = some d → l[j]? = some c → ¬ pairC d c) ?_ ?_ 0 (by omega) (fun _ _ _ _ _ h => by omega)
 ·intro i hi hp ih
  obtain ⟨c, q0⟩ : ∃ c, l[i] = c := ⟨_, rfl⟩
  have q1 : l[i]? = some c := by rw [← q0]; exact List.getElem?_eq_getElem hi
  have hc := mem_of_get q1
  have ht := H.t c hc
  obtain ⟨hb0, hbe, hbm⟩ := H.b c hc
  have n1 : ¬ ((c.t : Int) < 0) := by omega
  have n2 : ¬ (6 ≤ (c.t : Int)) := by omega
  have n3 : ¬ (c.b < 0) := by omega
  have n4 : ¬ (c.e < -1) := by omega
  have n5 : ¬ (0 ≤ c.e ∧ c.e < c.b) := by omega
  have w1 : IntKind.i64.wrap ((i : Int) + 1) = (i : Int) + 1 := wrap64 (by have := H.n; omega)
  have hn := H.n
  have hcase : (0 ≤ c.e ∧ ¬ c.e < c.b) ∨ ¬ 0 ≤ c.e := by omega
  have hprev : (¬ 0 < i) ∨ (0 < i ∧ ∃ d, l[i - 1]? = some d ∧ IntKind.i64.wrap ((i : Int) - 1) = ((i - 1 : Nat) : Int) ∧ ¬ c.b < d.b) := by
   by_cases h0 : 0 < i
   ·obtain ⟨d, q⟩ : ∃ d, l[i - 1]? = some d := ⟨_, List.getElem?_eq_getElem (by omega)⟩
    have := H.o (i - 1) d c q (by rw [show i - 1 + 1 = i by omega]; exact q1)
    exact .inr ⟨h0, d, q, by rw [show (i : Int) - 1 = ((i - 1 : Nat) : Int) by omega]; exact wrap64 (by omega), by omega⟩
   ·exact .inl h0
  have hpair : ∀ (j : Nat) d, j < i → l[j]? = some d → pairC d c → T = 14 := fun j d hj hd hq => hB ⟨j, i, d, c, hj, hd, q1, hq⟩
  have hne : ∀ (j : Nat) d, j < i → l[j]? = some d → 0 ≤ d.e → ¬ d.e = c.e := fun j d hj hd h0 => by
   intro h
   have := H.e j i d c hj hd q1 h0 (by omega)
   omega
  rcases hcase with ⟨h5, h6⟩ | h5
  rotate_left
  have h6 := trivial
  rotate_left
  all_goals
   rcases hprev with h7 | ⟨h7, d0, h8, h9, h10⟩
   rotate_left
   rotate_left
   have h8 := trivial
   have h9 := trivial
   have h10 := trivial
   rotate_left
   all_goals
    simp [hi, q0, q1, eCll, n1, n2, n3, n4, h5, h6, h7, h8, h9, h10]
    refine ⟨by omega, ?_⟩
    rw [show min i l.length = i by omega]
    refine wc_up i (fun j => ⟨[(0, .v (.l .z 12 (l.map eCll))), (4, .q (.ptr 4 0)), (7, .v (.l .z 12 (l.map eCll))), (8, .v (.i .i64 l.length)), (9, .v (.i .i64 i)), (61, .v (.l .z 12 (List.take i (l.map eCll)))), (62, .v (.i .i64 i)), (63, .v (.i .i64 j))],
     [(4, (eCll c).cells)], sg, sg.length⟩) (fun j => ∀ (k : Nat) d, k < j → l[k]? = some d → ¬ pairC d c) ?_ ?_ 0 (by omega) (fun _ _ h => by omega)
    ·intro j hj hp2 ih2
     obtain ⟨d, q2⟩ : ∃ d, l[j]? = some d := ⟨_, List.getElem?_eq_getElem (by omega)⟩
     have w2 : IntKind.i64.wrap ((j : Int) + 1) = (j : Int) + 1 := wrap64 (by omega)
     have A := c_history_Ahead d c sg
     have P1 := hpair j d hj q2
     have P2 := hne j d hj q2
     have hjl : j < l.length := by omega
     have q3 : l[j] = d := by have := q2; rw [List.getElem?_eq_getElem hjl] at this; exact Option.some.inj this
     simp only [eCll] at A
     by_cases hq : pairC d c
     ·have hT := P1 hq
      subst hT
      obtain ⟨e1, e2⟩ := hq
      have e2' : (decide (0 ≤ d.e ∧ d.e < c.b)) = false := by simpa using e2
      rw [e2', e1] at A
      simp [hj, hjl, q3, eCll, e1, A]
     ·have ih2 := ih2 (fun k d' hk hd' => by
       by_cases e : k = j
       ·subst e; rw [q2] at hd'; cases hd'; exact hq
       ·exact hp2 k d' (by omega) hd')
      by_cases e1 : d.t = c.t
      ·have e2 : decide (0 ≤ d.e ∧ d.e < c.b) = true := by
        by_cases h : 0 ≤ d.e ∧ d.e < c.b
        ·exact decide_eq_true h
        ·exact absurd ⟨e1, h⟩ hq
       rw [e2, e1] at A
       have e3 := of_decide_eq_true e2
       have e4 : (d.e == c.e) = false := by simpa using P2 e3.1
       simp [hj, hjl, q3, eCll, e1, A, e3.1, e4, w2]
       simpa [eCll] using ih2
      ·have e1' : ((d.t : Int) == (c.t : Int)) = false := by simp; omega
       by_cases e3 : 0 ≤ d.e
       ·have e4 : (d.e == c.e) = false := by simpa using P2 e3
        simp [hj, hjl, q3, eCll, e1, e1', e3, e4, w2]
        simpa [eCll] using ih2
       ·simp [hj, hjl, q3, eCll, e1, e1', e3, w2]
        simpa [eCll] using ih2
    ·intro hp2
     have ih := ih (fun k j d c' h1 h2 h3 h4 => by
      by_cases e : j = i
      ·subst e; rw [q1] at h4; cases h4; exact hp2 k d h1 h3
      ·exact hp k j d c' h1 (by omega) h3 h4)
     simp [w1]
     simpa using ih
 ·intro hp
  have : ¬ badC l := by
   rintro ⟨k, j, d, c, h1, h2, h3, h4⟩
   exact hp k j d c h1 (List.getElem?_eq_some_iff.1 h3).1 h2 h3 h4
  have := hG this
  subst this
  simp
end
section
variable (l : List Cll) (H : Cls l) (T : Int) (hB : badC l → T = 14) (hG : ¬ badC l → T = 0) (sg : List (List D))
include H hB hG
end
end Go.AM

namespace Go.AM
def dnF (l : List Cll) : Nat → List Nat
 | 0 => []
 | i + 1 => match l[i]? with
  | some c => if 0 ≤ c.e then dnF l i ++ [i] else dnF l i
  | none => dnF l i
def dnL (l : List Cll) : List Nat := dnF l l.length
def nxD (l : List Cll) (k i : Nat) : Int := match i with
 | 0 => -1
 | i + 1 => match (dnL l)[k]? with
  | some j => if j < i + 1 then (j : Int) else -1
  | none => -1
def laD (l : List Cll) (k : Nat) : Int := match k with
 | 0 => -1
 | k + 1 => match (dnL l)[k]? with
  | some j => match l[j]? with
   | some c => c.e
   | none => 0
  | none => 0
section
variable (l : List Cll) (H : Cls l) (sg : List (List D))
include H
end
end Go.AM

namespace Go.AM
def addO (at_ : Int) : Int → List Cll → Int
 | n, [] => n
 | n, c :: r => addO at_ (if c.o.k = 5 ∧ 0 ≤ c.e ∧ c.e < at_ then n + c.o.x.v else n) r
def cntO (at_ : Int) : Int → List Cll → Int
 | n, [] => n
 | n, c :: r => cntO at_ (if c.o.k = 7 ∧ c.b ≤ at_ then n + 1 else n) r
def mapC (N : List Int) : List D := N.flatMap (fun n => [.i .i64 n, .i .i64 1])
theorem mfind_mapC (n : Int) : ∀ N : List Int, mfind false (.i .i64 n) (mapC N) = some (if n ∈ N then some (.i .i64 1) else none)
 | [] => rfl
 | m :: N => by
  have e : mapC (m :: N) = .i .i64 m :: .i .i64 1 :: mapC N := rfl
  rw [e, mfind, mkey]
  by_cases h : n = m
  ·subst h; simp
  ·have h' : (n == m) = false := by simp [h]
   simp [h, h', mfind_mapC n N]
theorem mset_mapC (n : Int) : ∀ N : List Int, n ∉ N → mset false (.i .i64 n) (.i .i64 1) (mapC N) = some (mapC (N ++ [n]))
 | [], _ => by simp [mapC, mset, mkey]
 | m :: N, h => by
  have e : mapC (m :: N) = .i .i64 m :: .i .i64 1 :: mapC N := rfl
  have h1 : ¬ n = m := fun h2 => h (by simp [h2])
  have h2 : n ∉ N := fun h2 => h (by simp [h2])
  rw [e, mset, mkey]
  simp only [if_true, beq_eq_false_iff_ne.2 h1, mset_mapC n N h2]
  rfl
def mayO (n0 : Int) (l : List Cll) (N : List Int) (c : Cll) : Bool :=
 if c.o.k = 6 then decide (addO c.b n0 l ≤ c.a.n ∧ c.a.n ≤ addO c.e n0 l) else
 if c.o.k = 7 then decide (c.a.n ∉ N ∧ n0 ≤ c.a.n ∧ c.a.n < cntO c.e n0 l) else true
def eJ (K : K) (v0 v : Vl) (p : Int) (l : List Cll) (mr : Nat) : List D :=
 [.i .i64 v0.k, .l .z 2 (v0.is.map eI), .i .i64 v0.n, .i .i64 v.k, .l K 2 (v.is.map eI), .i .i64 v.n, .i .i64 p, .l .z 12 (l.map eCll), .mo mr]
section
variable (K : AM.K) (v0 v : Vl) (p : Int) (l : List Cll) (mr : Nat) (sg : List (List D)) (jr : Nat) (hJ : sg[jr]? = some (eJ K v0 v p l mr))
 (hv : ∀ c ∈ l, c.o.k = 5 → 0 ≤ c.o.x.v ∧ c.o.x.v ≤ 4294967296) (hn : l.length ≤ 1000) (h0 : 0 ≤ v0.n ∧ v0.n ≤ 1125899906842624)
include hJ hv hn h0
set_option maxHeartbeats 2000000 in
theorem c_lax_added (at_ : Int) : LL.call n_lax_judge_added [.p jr 0, .i .i64 at_] sg sg.length = some (.i .i64 (addO at_ v0.n l), sg, sg.length) := by
 refine wp_call e_lax_judge_added rfl ?_
 simp [eJ] at hJ
 simp [F_lax_judge_added, hJ]
 refine wc_list l (fun i (b : Int) => ⟨[(1, .v (.i .i64 at_)), (5, .v (.i .i64 b)), (16, .v (.l .z 12 (l.map eCll))), (17, .v (.i .i64 l.length)), (18, .v (.i .i64 i))], [], sg, sg.length⟩)
  (fun r b => addO at_ b r = addO at_ v0.n l ∧ (∀ c ∈ r, c ∈ l) ∧ 0 ≤ b ∧ b + r.length * 4294967296 ≤ 1125899906842624 + 1000 * 4294967296) ?_ ?_ v0.n ⟨rfl, fun _ h => h, h0.1, by omega⟩
 ·rintro i c r b q1 hi ⟨g1, g2, g3, g4⟩ ih
  have w1 : IntKind.i64.wrap ((i : Int) + 1) = (i : Int) + 1 := wrap64 (by omega)
  simp only [addO, List.length_cons] at g1 g4
  have g4' : b + 4294967296 + r.length * 4294967296 ≤ 1125899906842624 + 1000 * 4294967296 := by push_cast at g4; omega
  have q0 : l[i] = c := by have := q1; rw [List.getElem?_eq_getElem hi] at this; exact Option.some.inj this
  by_cases h1 : c.o.k = 5
  ·have hx := hv c (g2 c (by simp)) h1
   by_cases h2 : 0 ≤ c.e
   ·by_cases h3 : c.e < at_
    ·rw [if_pos ⟨h1, h2, h3⟩] at g1
     have ih := ih (b + c.o.x.v) ⟨g1, fun d hd => g2 d (by simp [hd]), by omega, by omega⟩
     have w2 : IntKind.i64.wrap (b + c.o.x.v) = b + c.o.x.v := wrap64 (by omega)
     simp [hi, q0, eCll, h1, h2, h3, w1, w2]
     simpa [eCll] using ih
    ·rw [if_neg (by omega)] at g1
     have ih := ih b ⟨g1, fun d hd => g2 d (by simp [hd]), by omega, by omega⟩
     simp [hi, q0, eCll, h1, h2, h3, w1]
     simpa [eCll] using ih
   ·rw [if_neg (by omega)] at g1
    have ih := ih b ⟨g1, fun d hd => g2 d (by simp [hd]), by omega, by omega⟩
    simp [hi, q0, eCll, h1, h2, w1]
    simpa [eCll] using ih
  ·rw [if_neg (by omega)] at g1
   have ih := ih b ⟨g1, fun d hd => g2 d (by simp [hd]), by omega, by omega⟩
   have h1' : (c.o.k == 5) = false := by simp [h1]
   simp [hi, q0, eCll, h1', w1]
   simpa [eCll] using ih
 ·rintro b ⟨g1, _⟩
  simp only [addO] at g1
  subst g1
  simp
set_option maxHeartbeats 2000000 in
theorem c_lax_came (at_ : Int) : LL.call n_lax_judge_came [.p jr 0, .i .i64 at_] sg sg.length = some (.i .i64 (cntO at_ v0.n l), sg, sg.length) := by
 refine wp_call e_lax_judge_came rfl ?_
 simp [eJ] at hJ
 simp [F_lax_judge_came, hJ]
 refine wc_list l (fun i (b : Int) => ⟨[(1, .v (.i .i64 at_)), (5, .v (.i .i64 b)), (16, .v (.l .z 12 (l.map eCll))), (17, .v (.i .i64 l.length)), (18, .v (.i .i64 i))], [], sg, sg.length⟩)
  (fun r b => cntO at_ b r = cntO at_ v0.n l ∧ 0 ≤ b ∧ b + r.length ≤ 1125899906842624 + 1000) ?_ ?_ v0.n ⟨rfl, h0.1, by omega⟩
 ·rintro i c r b q1 hi ⟨g1, g3, g4⟩ ih
  have w1 : IntKind.i64.wrap ((i : Int) + 1) = (i : Int) + 1 := wrap64 (by omega)
  simp only [cntO, List.length_cons] at g1 g4
  have q0 : l[i] = c := by have := q1; rw [List.getElem?_eq_getElem hi] at this; exact Option.some.inj this
  by_cases h1 : c.o.k = 7
  ·by_cases h2 : c.b ≤ at_
   ·rw [if_pos ⟨h1, h2⟩] at g1
    have ih := ih (b + 1) ⟨g1, by omega, by omega⟩
    have w2 : IntKind.i64.wrap (b + 1) = b + 1 := wrap64 (by omega)
    simp [hi, q0, eCll, h1, h2, w1, w2]
    simpa [eCll] using ih
   ·rw [if_neg (by omega)] at g1
    have ih := ih b ⟨g1, by omega, by omega⟩
    simp [hi, q0, eCll, h1, h2, w1]
    simpa [eCll] using ih
  ·rw [if_neg (by omega)] at g1
   have ih := ih b ⟨g1, by omega, by omega⟩
   have h1' : (c.o.k == 7) = false := by simp [h1]
   simp [hi, q0, eCll, h1', w1]
   simpa [eCll] using ih
 ·rintro b ⟨g1, _⟩
  simp only [cntO] at g1
  subst g1
  simp
theorem c_lax_may (N : List Int) (hm : sg[mr]? = some (.u :: mapC N)) (c : Cll) :
    LL.call n_lax_judge_may [.p jr 0, eCll c] sg sg.length = some (.b (mayO v0.n l N c), if c.o.k = 7 ∧ mayO v0.n l N c = true then sg.set mr (.u :: mapC (N ++ [c.a.n])) else sg, sg.length) := by
 have A1 := c_lax_added K v0 v p l mr sg jr hJ hv hn h0 c.b
 have A2 := c_lax_added K v0 v p l mr sg jr hJ hv hn h0 c.e
 have C1 := c_lax_came K v0 v p l mr sg jr hJ hv hn h0 c.e
 have M := mfind_mapC c.a.n N
 simp [eJ] at hJ
 refine wp_call e_lax_judge_may rfl ?_
 by_cases h6 : c.o.k = 6
 ·have e : mayO v0.n l N c = decide (addO c.b v0.n l ≤ c.a.n ∧ c.a.n ≤ addO c.e v0.n l) := by unfold mayO; rw [if_pos h6]
  rw [if_neg (by omega), e]
  by_cases g1 : addO c.b v0.n l ≤ c.a.n
  ·by_cases g2 : c.a.n ≤ addO c.e v0.n l
   ·simp [F_lax_judge_may, eCll, h6, A1, A2, g1, g2]
   ·simp [F_lax_judge_may, eCll, h6, A1, A2, g1, g2]
  ·simp [F_lax_judge_may, eCll, h6, A1, A2, g1]
 ·have h6' : (c.o.k == 6) = false := by simp [h6]
  by_cases h7 : c.o.k = 7
  ·have e : mayO v0.n l N c = decide (c.a.n ∉ N ∧ v0.n ≤ c.a.n ∧ c.a.n < cntO c.e v0.n l) := by unfold mayO; rw [if_neg h6, if_pos h7]
   rw [e]
   by_cases g1 : c.a.n ∈ N
   ·rw [if_pos g1] at M
    simp [F_lax_judge_may, eCll, h6', h7, hJ, hm, M, g1]
   ·rw [if_neg g1] at M
    have S := mset_mapC c.a.n N g1
    by_cases g2 : v0.n ≤ c.a.n
    ·have g2' : ¬ c.a.n < v0.n := by omega
     by_cases g3 : c.a.n < cntO c.e v0.n l
     ·have g3' : ¬ cntO c.e v0.n l ≤ c.a.n := by omega
      have w1 : IntKind.i64.wrap 1 = 1 := by decide
      simp [F_lax_judge_may, eCll, h6', h7, hJ, hm, M, g1, g2, g2', g3, g3', C1, w1, S]
      exact List.take_of_length_le (by simp)
     ·have g3' : cntO c.e v0.n l ≤ c.a.n := by omega
      simp [F_lax_judge_may, eCll, h6', h7, hJ, hm, M, g1, g2, g2', g3, g3', C1]
    ·have g2' : c.a.n < v0.n := by omega
     simp [F_lax_judge_may, eCll, h6', h7, hJ, hm, M, g1, g2, g2']
  ·have h7' : (c.o.k == 7) = false := by simp [h7]
   have e : mayO v0.n l N c = true := by unfold mayO; rw [if_neg h6, if_neg h7]
   rw [if_neg (by omega), e]
   simp [F_lax_judge_may, eCll, h6', h7']
end
end Go.AM

namespace Go.AM
def eTc (K : K) (c : Cll) : List D := [.i .i64 c.o.k, .i .u64 c.o.x.canon.p, .i .i64 c.o.x.v, .i .i64 0, .i .i64 0, .i .i64 0, .i .i64 0, .i .i64 0, .i .i64 0, .i .i64 0, .b false, .i .i64 0, .i .i64 0, .i .i64 0, .l K 2 [], .i .i64 0, .l K 2 [],
 .i .i64 c.b, .i .i64 c.e, .b c.a.ok, .i .u64 c.a.x.canon.p, .i .i64 c.a.x.v, .i .i64 c.a.n]
def eTl (K : K) (c : Cll) : D := .a (eTc K c)
instance : Flat (eTl .z) := ⟨fun _ => rfl, fun _ => rfl, fun _ _ => rfl⟩
def numsD (l : List Cll) (dk : List Nat) : List Int := dk.filterMap (fun j => match l[j]? with
 | some d => if d.o.k = 7 then some d.a.n else none
 | none => none)
theorem numsD_snoc (l : List Cll) (dk : List Nat) (j : Nat) (d : Cll) (h : l[j]? = some d) : numsD l (dk ++ [j]) = numsD l dk ++ (if d.o.k = 7 then [d.a.n] else []) := by
 unfold numsD
 rw [List.filterMap_append]
 congr 1
 simp only [List.filterMap_cons, h, List.filterMap_nil]
 split <;> rename_i h' <;> split at h' <;> simp_all
section
variable (l : List Cll) (n0 : Int) (c : Cll) (dk : List Nat) (sg : List (List D))
 (hv : ∀ c ∈ l, c.o.k = 5 → 0 ≤ c.o.x.v ∧ c.o.x.v ≤ 4294967296) (hn : l.length ≤ 1000) (h0 : 0 ≤ n0 ∧ n0 ≤ 1125899906842624) (hdk : ∀ j ∈ dk, j < l.length) (hdn : dk.length ≤ 1000)
include hv hn h0 hdk hdn
end
end Go.AM

namespace Go.AM
theorem canonOk {x : It} (h : x.ok) : x.canon.ok := ⟨canon_lt h.1, h.2⟩
theorem canonTwo (x : It) : x.canon.canon = x.canon := by simp [It.canon, canon_canon]
structure GV (k : Int) (m : Nat) (v : Vl) : Prop where
 kd : v.k = k
 it : ∀ y ∈ v.is, y.ok ∧ y.canon = y
 so : k = 1 → v.is.Pairwise leI
 l : v.is.length ≤ 20 + m
 n : 0 ≤ v.n ∧ v.n ≤ 1099511627776 + m * 4294967296
structure Cops (k : Int) (l : List Cll) : Prop where
 o : ∀ c ∈ l, 2 * k - 1 ≤ c.o.k ∧ c.o.k ≤ (if k = 4 then 7 else 2 * k)
 v : ∀ c ∈ l, c.o.k = 5 → 0 ≤ c.o.x.v ∧ c.o.x.v ≤ 4294967296
 x : ∀ c ∈ l, c.o.x.ok
 a : ∀ c ∈ l, c.a.x.ok
theorem outI_mem {x : It} {l l' : List It} {m : Int} (h : outI x l m = some l') : (∀ y ∈ l', y ∈ l) ∧ l'.length ≤ l.length ∧ (l.Pairwise leI → l'.Pairwise leI) := by
 unfold outI at h
 split at h
 ·cases h
 ·cases h
  exact ⟨fun y hy => List.mem_of_mem_eraseIdx hy, by rw [List.length_eraseIdx]; split <;> omega, fun hp => hp.sublist (List.eraseIdx_sublist _ _)⟩
theorem GV.aft {k : Int} {m : Nat} {v : Vl} (h : GV k m v) (hk : 1 ≤ k ∧ k ≤ 4) {o : Int} {x ai : It} {ok : Bool} {p : Int} (ho : 2 * k - 1 ≤ o ∧ o ≤ (if k = 4 then 7 else 2 * k)) (hv : o = 5 → 0 ≤ x.v ∧ x.v ≤ 4294967296) (hx : x.ok) :
    GV k (m + 1) (aftV v o x ok ai p).1 := by
 obtain ⟨f1, f2, f3, f4, f5⟩ := h
 have same : GV k (m + 1) v := ⟨f1, f2, f3, by omega, by push_cast; omega⟩
 unfold aftV
 split
 ·exact same
 split
 ·rename_i h1
  refine ⟨f1, ?_, fun _ => (ordered_pw _).1 (sortI_ordered _), ?_, by simp only; push_cast; omega⟩
  ·intro y hy
   obtain ⟨z, hz, rfl⟩ := List.mem_map.1 ((sortI_perm _).mem_iff.1 hy)
   refine ⟨canonOk ?_, canonTwo z⟩
   rcases List.mem_append.1 hz with hz | hz
   ·exact (f2 z hz).1
   ·simp at hz; subst hz; exact hx
  ·simp only [sortI_len, List.length_map, List.length_append, List.length_singleton]; omega
 split
 ·rename_i h1
  refine ⟨f1, ?_, fun h => by split at ho <;> omega, by simp; omega, by simp only; push_cast; omega⟩
  intro y hy
  rcases List.mem_append.1 hy with hy | hy
  ·exact f2 y hy
  ·simp at hy; subst hy; exact ⟨canonOk hx, canonTwo x⟩
 split
 ·split
  ·rename_i l' hl
   obtain ⟨g1, g2, g3⟩ := outI_mem hl
   exact ⟨f1, fun y hy => f2 y (g1 y hy), fun h => g3 (f3 h), by simp only; omega, by simp only; push_cast; omega⟩
  ·exact same
 split
 ·split
  ·rename_i l' hl
   obtain ⟨g1, g2, g3⟩ := outI_mem hl
   exact ⟨f1, fun y hy => f2 y (g1 y hy), fun h => g3 (f3 h), by simp only; omega, by simp only; push_cast; omega⟩
  ·exact same
 split
 ·rename_i h5
  have := hv h5
  exact ⟨f1, f2, f3, by simp only; omega, by simp only; push_cast; omega⟩
 split
 ·exact ⟨f1, f2, f3, by simp only; omega, by simp only; push_cast; omega⟩
 ·exact same
def tF (c : Cll) : FrR := ⟨⟨c.o.k, c.o.x.canon, 0, 0⟩, 0, 0, 0, 0, 0, false, 0, 0, 0, [], 0, []⟩
def runL (n0 p : Int) (l : List Cll) : Vl → List Nat → List Nat → Vl × Int
 | v, _, [] => (v, -1)
 | v, dk, j :: r => match l[j]? with
  | none => (v, -1)
  | some c => if (aftV v c.o.k c.o.x c.a.ok c.a.x p).2 = true ∧ mayO n0 l (numsD l dk) c = true then runL n0 p l (aftV v c.o.k c.o.x c.a.ok c.a.x p).1 (dk ++ [j]) r else (v, j)
def stJ (sg : List (List D)) (N : List Int) (K : K) (v0 v : Vl) (p : Int) (l : List Cll) : List (List D) := sg ++ [.u :: mapC N, eJ K v0 v p l sg.length]
section
variable (sg : List (List D)) (N : List Int) (K : AM.K) (v0 v : Vl) (p : Int) (l : List Cll)
theorem stJ_0 : (stJ sg N K v0 v p l)[sg.length]? = some (.u :: mapC N) := by simp [stJ]
theorem stJ_1 : (stJ sg N K v0 v p l)[sg.length + 1]? = some (eJ K v0 v p l sg.length) := by simp [stJ]
theorem stJ_g1 (h) : (stJ sg N K v0 v p l)[sg.length + 1]'h = eJ K v0 v p l sg.length := by simp [stJ]
theorem stJ_len : (stJ sg N K v0 v p l).length = sg.length + 1 + 1 := by simp [stJ]
theorem stJ_take : List.take sg.length (stJ sg N K v0 v p l) = sg := by simp [stJ]
theorem stJ_set0 (N' : List Int) : (stJ sg N K v0 v p l).set sg.length (.u :: mapC N') = stJ sg N' K v0 v p l := by simp [stJ, List.set_append_right]
theorem stJ_set1 (K' : AM.K) (v' : Vl) : (stJ sg N K v0 v p l).set (sg.length + 1) (eJ K' v0 v' p l sg.length) = stJ sg N K' v0 v' p l := by simp [stJ, List.set_append_right]
end
section
variable (k p : Int) (v0 : Vl) (l : List Cll) (hC : ∀ sg, LL.call n_history_Check [.l .z 12 (l.map eCll)] sg sg.length = some (.i .i64 0, sg, sg.length)) (ds : List Nat) (hD : ∀ sg, LL.call n_history_Done [.l .z 12 (l.map eCll)] sg sg.length = some (.l .x 1 (ds.map eN), sg, sg.length)) (hds : ∀ j ∈ ds, j < l.length) (hdl : ds.length ≤ 900) (HO : Cops k l) (hl : legal k p = 0) (h0 : GV k 0 v0) (hn : l.length ≤ 900) (sg : List (List D))
include hC hD hds hdl HO hl h0 hn
set_option maxHeartbeats 8000000 in
theorem c_lax_CheckG : ∀ R, runL v0.n p l v0 [] ds = R → LL.call n_lax_Check [eVl .z v0, .i .i64 p, .l .z 12 (l.map eCll)] sg sg.length =
    some (.t [eVl .z R.1, .i .i64 R.2, .i .i64 (if R.2 = -1 then 0 else 12)], sg, sg.length) := by
 intro R hR
 have hk := legal_k hl
 have L := c_op_Legal k p sg
 rw [hl] at L
 have C := hC sg
 have hs1 : stJ sg [] .z v0 v0 p l = sg ++ [[.u], [.i .i64 v0.k, .l .z 2 (v0.is.map eI), .i .i64 v0.n, .i .i64 v0.k, .l .z 2 (v0.is.map eI), .i .i64 v0.n, .i .i64 p, .l .z 12 (l.map eCll), .mo sg.length]] := rfl
 have Dn := hD (stJ sg [] .z v0 v0 p l)
 have hmin2 : min sg.length (sg.length + 1 + 1) = sg.length := by omega
 have hk0 : v0.k = k := h0.kd
 rw [← hk0] at L
 refine wp_call e_lax_Check rfl ?_
 simp [F_lax_Check, eVl, L, C, ← hs1, Dn]
 rw [stJ_len, hmin2]
 refine wc_upb ds.length (fun i (b : AM.K × Vl × List Int) => ⟨[(1, .v (.i .i64 p)), (2, .v (.l .z 12 (l.map eCll))), (6, .q (.ptr 6 0)), (11, .v (.p (sg.length + 1) 0)), (39, .v (.l .o 1 (ds.map eN))), (40, .v (.i .i64 ds.length)), (41, .v (.i .i64 i))],
     [(6, [.i .i64 0, .l .o 2 [], .i .i64 0])], stJ sg b.2.2 b.1 v0 b.2.1 p l, sg.length⟩)
  (fun i b => (b.1 = .z ∨ b.1 = .o) ∧ GV k i b.2.1 ∧ b.2.2 = numsD l (ds.take i) ∧ runL v0.n p l b.2.1 (ds.take i) (ds.drop i) = R) ?_ ?_ (.z, v0, []) ⟨.inl rfl, h0, rfl, by simpa using hR⟩
 ·rintro i ⟨K, v, N⟩ hi ⟨hK, G, hN, hrun⟩ ih
  simp only at hK G hN hrun
  obtain ⟨j, q0⟩ : ∃ j, ds[i] = j := ⟨_, rfl⟩
  have q1 : ds[i]? = some j := by rw [← q0]; exact List.getElem?_eq_getElem hi
  have hjl := hds j (mem_of_get q1)
  obtain ⟨c, q2⟩ : ∃ c, l[j]? = some c := ⟨_, List.getElem?_eq_getElem hjl⟩
  have q3 : l[j] = c := by have := q2; rw [List.getElem?_eq_getElem hjl] at this; exact Option.some.inj this
  have hcm := mem_of_get q2
  have w1 : IntKind.i64.wrap ((i : Int) + 1) = (i : Int) + 1 := wrap64 (by omega)
  have et : ds.take (i + 1) = ds.take i ++ [j] := by rw [List.take_add_one, q1]; rfl
  have ed : ds.drop i = j :: ds.drop (i + 1) := by rw [List.drop_eq_getElem_cons hi, q0]
  rw [ed, runL, q2] at hrun
  simp only at hrun
  obtain ⟨K', hK', A⟩ := c_value_After v c.o.k c.o.x c.o.a c.o.b c.a.ok c.a.x c.a.n p (by rw [G.kd]; exact hk) (by rw [G.kd]; exact HO.o c hcm) (HO.v c hcm) (HO.x c hcm) (HO.a c hcm) (fun y hy => (G.it y hy).1) (by have := G.l; omega) ⟨G.n.1, by have := G.n.2; omega⟩ (stJ sg N K v0 v p l)
  have M := c_lax_may K v0 v p l sg.length (stJ sg N K v0 v p l) (sg.length + 1) (stJ_1 ..) HO.v (by omega) ⟨h0.n.1, by have := h0.n.2; omega⟩ N (stJ_0 ..) c
  have G2 := G.aft hk (HO.o c hcm) (HO.v c hcm) (HO.x c hcm) (ai := c.a.x) (ok := c.a.ok) (p := p)
  rw [← hN] at hrun
  generalize ha : aftV v c.o.k c.o.x c.a.ok c.a.x p = a at A G2 hrun
  obtain ⟨v', ok⟩ := a
  simp only at G2 hrun A
  have hj1 : ¬ (j : Int) = -1 := by omega
  cases ok with
  | false =>
   rw [if_neg (by simp)] at hrun
   subst hrun
   simp [eVl, eCll] at A
   rcases hK with rfl | rfl
   all_goals
    rcases hK' with rfl | rfl
    all_goals
     simp [hi, q0, hjl, q3, eCll, eN, stJ_1, eJ, A, hj1, eVl]
     simp [stJ_len, stJ_take, hmin2]
  | true =>
   by_cases hmay : mayO v0.n l N c = true
   ·rw [if_pos ⟨rfl, hmay⟩] at hrun
    have hN2 : (if c.o.k = 7 ∧ mayO v0.n l N c = true then (stJ sg N K v0 v p l).set sg.length (.u :: mapC (N ++ [c.a.n])) else stJ sg N K v0 v p l) = stJ sg (numsD l (ds.take (i + 1))) K v0 v p l := by
     rw [et, numsD_snoc l _ j c q2, ← hN]
     by_cases h7 : c.o.k = 7
     ·rw [if_pos ⟨h7, hmay⟩, if_pos h7, stJ_set0]
     ·rw [if_neg (fun h => h7 h.1), if_neg h7, List.append_nil]
    rw [hN2, hmay] at M
    generalize hNN : numsD l (ds.take (i + 1)) = N2 at *
    have ih := ih (.z, v', N2) ⟨.inl rfl, G2, rfl, by rw [et]; exact hrun⟩
    simp only at ih
    have s1 := stJ_set1 sg N2 K v0 v p l .z v'
    simp [eVl, eCll] at A M
    simp [eJ] at s1
    rcases hK with rfl | rfl
    all_goals
     rcases hK' with rfl | rfl
     all_goals
      simp [hi, q0, hjl, q3, eCll, eN, stJ_1, eJ, A, M, hj1, eVl, w1, s1]
      rw [stJ_len, hmin2]
      simpa using ih
   ·have hmay' : mayO v0.n l N c = false := by simpa using hmay
    rw [if_neg (by rw [hmay']; simp)] at hrun
    subst hrun
    rw [if_neg (by rw [hmay']; simp), hmay'] at M
    simp [eVl, eCll] at A M
    rcases hK with rfl | rfl
    all_goals
     rcases hK' with rfl | rfl
     all_goals
      simp [hi, q0, hjl, q3, eCll, eN, stJ_1, eJ, A, M, hj1, eVl]
      simp [stJ_len, stJ_take, hmin2]
 ·rintro ⟨K, v, N⟩ ⟨hK, G, hN, hrun⟩
  simp only at hK G hN hrun
  rw [List.drop_length, runL] at hrun
  subst hrun
  rcases hK with rfl | rfl
  all_goals
   simp [stJ_1, stJ_g1, eJ, stJ_len, stJ_take, eVl, hmin2]
end
section
variable (k p : Int) (v0 : Vl) (l : List Cll) (H : Cls l) (HO : Cops k l) (hac : ∀ c ∈ l, c.a.x.canon = c.a.x) (hk : 1 ≤ k ∧ k ≤ 4) (h0 : GV k 0 v0) (hn : l.length ≤ 900) (sg : List (List D))
include H HO h0 hn hac hk
end
end Go.AM

namespace Go.AM
def enD (l : List Cll) (j : Nat) : Int := match l[j]? with
 | some c => c.e
 | none => 0
def insE (l : List Cll) (ds : List Nat) (i : Nat) : List Nat := ds.filter (fun j => enD l j ≤ enD l i) ++ i :: ds.filter (fun j => ¬ enD l j ≤ enD l i)
def dnS (l : List Cll) : Nat → List Nat
 | 0 => []
 | i + 1 => if 0 ≤ enD l i then insE l (dnS l i) i else dnS l i
theorem insE_perm (l : List Cll) (ds : List Nat) (i : Nat) : (insE l ds i).Perm (i :: ds) := by
 unfold insE
 have h : (ds.filter (fun j => decide (enD l j ≤ enD l i)) ++ ds.filter (fun j => !decide (enD l j ≤ enD l i))).Perm ds := List.filter_append_perm _ _
 refine List.perm_middle.trans (List.Perm.cons _ ?_)
 have e : (fun j => decide (¬ enD l j ≤ enD l i)) = (fun j => !decide (enD l j ≤ enD l i)) := by funext j; exact decide_not
 rw [e]
 exact h
theorem dnS_mem (l : List Cll) : ∀ n j, j ∈ dnS l n ↔ j < n ∧ 0 ≤ enD l j
 | 0, j => by simp [dnS]
 | n + 1, j => by
  rw [dnS]
  have ih := dnS_mem l n j
  split
  ·rename_i h
   rw [(insE_perm l _ n).mem_iff, List.mem_cons, ih]
   constructor
   ·rintro (rfl | h2)
    ·exact ⟨by omega, h⟩
    ·exact ⟨by omega, h2.2⟩
   ·rintro ⟨h1, h2⟩
    by_cases e : j = n
    ·exact .inl e
    ·exact .inr ⟨by omega, h2⟩
  ·rename_i h
   rw [ih]
   constructor
   ·rintro ⟨h1, h2⟩; exact ⟨by omega, h2⟩
   ·rintro ⟨h1, h2⟩
    refine ⟨?_, h2⟩
    by_cases e : j = n
    ·subst e; exact absurd h2 h
    ·omega
theorem dnS_len (l : List Cll) : ∀ n, (dnS l n).length ≤ n
 | 0 => by simp [dnS]
 | n + 1 => by
  have ih := dnS_len l n
  rw [dnS]
  split
  ·rw [(insE_perm l _ n).length_eq]; simp; omega
  ·omega
theorem insE_pw (l : List Cll) (ds : List Nat) (i : Nat) (h : ds.Pairwise (fun a b => enD l a ≤ enD l b)) : (insE l ds i).Pairwise (fun a b => enD l a ≤ enD l b) := by
 unfold insE
 rw [List.pairwise_append]
 refine ⟨h.filter _, ?_, ?_⟩
 ·rw [List.pairwise_cons]
  refine ⟨fun b hb => ?_, h.filter _⟩
  have := (List.mem_filter.1 hb).2
  simp at this; omega
 ·intro a ha b hb
  have h1 := (List.mem_filter.1 ha).2
  simp at h1
  rcases List.mem_cons.1 hb with rfl | hb
  ·exact h1
  ·have h2 := (List.mem_filter.1 hb).2
   simp at h2; omega
theorem dnS_pw (l : List Cll) : ∀ n, (dnS l n).Pairwise (fun a b => enD l a ≤ enD l b)
 | 0 => by simp [dnS]
 | n + 1 => by
  rw [dnS]
  split
  ·exact insE_pw l _ n (dnS_pw l n)
  ·exact dnS_pw l n
theorem insE_split (l : List Cll) (A B : List Nat) (i : Nat) (hA : ∀ a ∈ A, enD l a ≤ enD l i) (hB : ∀ b ∈ B, ¬ enD l b ≤ enD l i) : insE l (A ++ B) i = A ++ i :: B := by
 unfold insE
 rw [List.filter_append, List.filter_append]
 rw [List.filter_eq_self.2 (fun a ha => by simpa using hA a ha), List.filter_eq_nil_iff.2 (fun b hb => by simpa using hB b hb)]
 rw [List.filter_eq_nil_iff.2 (fun a ha => by simpa using hA a ha), List.filter_eq_self.2 (fun b hb => by simpa using hB b hb)]
 simp
section
variable (l : List Cll) (hl : l.length ≤ 1000) (he : ∀ c ∈ l, c.e ≤ 100000) (sg : List (List D))
include hl he
set_option maxHeartbeats 4000000 in
theorem c_history_DoneS : LL.call n_history_Done [.l .z 12 (l.map eCll)] sg sg.length = some (.l .x 1 ((dnS l l.length).map eN), sg, sg.length) := by
 refine wp_call e_history_Done rfl ?_
 simp [F_history_Done]
 refine wc_upb l.length (fun i (b : Bool) => if b then ⟨[(0, .v (.l .z 12 (l.map eCll))), (3, .q (.hdr 3)), (7, .v (.l .z 12 (l.map eCll))), (8, .v (.i .i64 l.length)), (9, .v (.i .i64 i))], [(3, [.l .x 1 ((dnS l i).map eN)])], sg, sg.length⟩
     else ⟨[(0, .v (.l .z 12 (l.map eCll))), (3, .v (.l .x 1 ((dnS l i).map eN))), (7, .v (.l .z 12 (l.map eCll))), (8, .v (.i .i64 l.length)), (9, .v (.i .i64 i))], [], sg, sg.length⟩)
  (fun i _ => True) ?_ ?_ false trivial
 ·intro i bb hi _ ih
  have ihf := ih false trivial
  have iht := ih true trivial
  simp only [if_true, if_false, Bool.false_eq_true] at ihf iht
  obtain ⟨c, q0⟩ : ∃ c, l[i] = c := ⟨_, rfl⟩
  have q1 : l[i]? = some c := by rw [← q0]; exact List.getElem?_eq_getElem hi
  have w1 : IntKind.i64.wrap ((i : Int) + 1) = (i : Int) + 1 := wrap64 (by omega)
  have hln := dnS_len l i
  have eE : enD l i = c.e := by simp [enD, q1]
  by_cases h0 : c.e < 0
  ·have e1 : dnS l (i + 1) = dnS l i := by rw [dnS, if_neg (by omega)]
   rw [e1] at ihf iht
   cases bb with
   | false =>
    simp [hi, q0, q1, eCll, h0, w1]
    simpa using ihf
   | true =>
    simp [hi, q0, q1, eCll, h0, w1]
    simpa using iht
  ·have e1 : dnS l (i + 1) = insE l (dnS l i) i := by rw [dnS, if_pos (by omega)]
   rw [e1] at iht
   have hap : (dnS l i).length * 8 ≤ 140737488355328 := by omega
   have hap2 : ((dnS l i).length + 1) * 8 ≤ 140737488355328 := by omega
   have hpw := dnS_pw l i
   have hmem := fun j => (dnS_mem l i j).1
   generalize dnS l i = ds at *
   cases bb
   all_goals
    simp [hi, q0, q1, eCll, h0, w1, hap, hap2]
    refine wc_ind (fun (a : Bool × List Nat × List Nat) => if a.1 then ⟨[(0, .v (.l .z 12 (l.map eCll))), (3, .q (.hdr 3)), (5, .q (.ptr 5 0)), (6, .v (.i .i64 a.2.1.length)), (7, .v (.l .z 12 (l.map eCll))), (8, .v (.i .i64 l.length)), (9, .v (.i .i64 i))],
        [(3, [.l .x 1 ((a.2.1 ++ i :: a.2.2).map eN)]), (5, (eCll c).cells)], sg, sg.length⟩
     else ⟨[(0, .v (.l .z 12 (l.map eCll))), (3, .v (.l .x 1 (ds.map eN ++ [.i .i64 i]))), (5, .q (.ptr 5 0)), (6, .v (.i .i64 ds.length)), (7, .v (.l .z 12 (l.map eCll))), (8, .v (.i .i64 l.length)), (9, .v (.i .i64 i))],
      [(5, (eCll c).cells)], sg, sg.length⟩) (fun a => a.2.1.length) (fun a => a.2.1 ++ a.2.2 = ds ∧ (∀ b ∈ a.2.2, c.e < enD l b) ∧ (a.1 = false → a.2.2 = [])) ?_ (false, ds, []) ⟨by simp, by simp, by simp⟩
    rintro ⟨tb, A, B⟩ ⟨g1, g2, g3⟩ ih2
    simp only at g1 g2 g3
    have hAl : A.length + B.length = ds.length := by rw [← g1]; simp
    rcases List.eq_nil_or_concat A with h | ⟨A', a, h⟩
    ·subst h
     have fin : insE l ds i = i :: B := by rw [← g1]; exact insE_split l [] B i (by simp) (fun b hb => by have := g2 b hb; omega)
     rw [fin] at iht
     cases tb with
     | false =>
      have hB := g3 rfl
      subst hB
      simp only [List.append_nil] at g1
      subst g1
      simp [w1]
      simpa [eN] using iht
     | true =>
      simp [w1]
      simpa [eN] using iht
    ·rw [List.concat_eq_append] at h
     subst h
     obtain ⟨ha1, ha2⟩ := hmem a (by rw [← g1]; simp)
     obtain ⟨d, q2⟩ : ∃ d, l[a]? = some d := ⟨_, List.getElem?_eq_getElem (by omega)⟩
     have eA : enD l a = d.e := by simp [enD, q2]
     have w2 : IntKind.i64.wrap (A'.length : Int) = (A'.length : Int) := wrap64 (by simp at hAl; omega)
     by_cases h3 : c.e < d.e
     ·have hg : ∀ b ∈ a :: B, c.e < enD l b := by
       intro b hb
       rcases List.mem_cons.1 hb with rfl | hb
       ·omega
       ·exact g2 b hb
      have jh2 := ih2 (true, A', a :: B) (by simp) ⟨by rw [← g1]; simp, hg, by simp⟩
      cases tb with
      | false =>
       have hB := g3 rfl
       subst hB
       simp only [List.append_nil] at g1
       subst g1
       simp [w1, w2, q2, h3, eN, eCll]
       refine ⟨by omega, ?_⟩
       simpa [eN, eCll] using jh2
      | true =>
       simp [w1, w2, q2, h3, eN, eCll]
       refine ⟨by omega, ?_⟩
       simpa [eN, eCll] using jh2
     ·have fin : insE l ds i = A' ++ a :: i :: B := by
       rw [← g1]
       have hpA : ∀ x ∈ A' ++ [a], enD l x ≤ enD l i := by
        intro x hx
        rw [← g1] at hpw
        have hpw2 := (List.pairwise_append.1 hpw).1
        rcases List.mem_append.1 hx with hx | hx
        ·have := (List.pairwise_append.1 hpw2).2.2 x hx a (by simp); omega
        ·simp at hx; subst hx; omega
       have := insE_split l (A' ++ [a]) B i hpA (fun b hb => by have := g2 b hb; omega)
       rw [this]; simp
      rw [fin] at iht
      cases tb with
      | false =>
       have hB := g3 rfl
       subst hB
       simp only [List.append_nil] at g1
       subst g1
       simp [w1, w2, q2, h3, eN, eCll]
       simpa [eN] using iht
      | true =>
       simp [w1, w2, q2, h3, eN, eCll]
       simpa [eN] using iht
 ·intro bb _
  cases bb <;> simp
end
end Go.AM

namespace Go.AM
structure RC (er rc : Nat) (sg : List (List D)) (x : RnS) (e : Eng) : Prop where
 R : Rep sg er e x.M x.fs
 ek : e.k = x.k
 ep : e.p = x.p
 ecl : e.cl = x.cl
 est : e.st = x.st
 hrc : sg[rc]? = some (eRec er x.cs x.ats)
 dc : ¬ own er e rc
theorem rc_beg {i er rc sg x e} (h : RC er rc sg x e) (hI : RI i x) (hi : i ≤ 1000) (t : Int) (o : Rw) :
    ∃ sg' e' lo, LL.call n_history_Recorder_Begin [.p rc 0, .i .i64 t, eOp o] sg sg.length = some (.i .i64 (begN x t o).2, sg', lo) ∧ RC er rc sg' (begN x t o).1 e' ∧ ((lo = er ∧ sg.length ≤ sg'.length) ∨ (lo = sg.length ∧ sg'.length = sg.length)) := by
 have hb0 : begO e.k e.cl x.fs t o = begO x.k x.cl x.fs t o := by rw [h.ek, h.ecl]
 have hcs : x.cs.length ≤ 1000 := by have := hI.cs; omega
 unfold begN
 by_cases hb : begO x.k x.cl x.fs t o = 0
 ·rw [if_pos hb]
  obtain ⟨sg', e', A1, A2, A3, A4, A5, A6, A7, A8, A9, A10, A11, A12, A13⟩ := c_history_Begin er rc e x.M x.fs x.cs x.ats sg h.R h.hrc h.dc hI.a6 hcs t o (by rw [hb0]; exact hb)
  rw [h.est] at A6
  refine ⟨sg', e', _, A1, ⟨A5, A7.trans h.ek, A8.trans h.ep, A10.trans h.ecl, A11.trans h.est, A6, ?_⟩, .inl ⟨rfl, by omega⟩⟩
  rintro (ho | ho | ⟨j, ho⟩)
  ·exact h.dc (.inl ho)
  ·exact h.dc (.inr (.inl (by rw [← A9]; exact ho)))
  ·rcases A13 j rc ho with hh | hh
   ·exact h.dc (.inr (.inr ⟨j, hh⟩))
   ·have := get_lt h.hrc; omega
 ·rw [if_neg hb]
  have N := c_history_Begin_no er rc e x.M x.fs x.cs x.ats sg h.R h.hrc h.dc hI.a6 hcs t o (by rw [hb0]; exact hb)
  rw [hb0] at N
  exact ⟨sg, e, _, N, h, .inr ⟨rfl, rfl⟩⟩
def pickR (x : RnS) (pick : Int) : RnS := match pickL (busyO x.fs 0) pick with
 | none => x
 | some n => match x.fs[n]? with
  | some (some f) => pickE x n f
  | _ => x
theorem rc_pick {i er rc sg x e} (h : RC er rc sg x e) (hI : RI i x) (hi : i ≤ 1000) (pick : Int) :
    ∃ sg' e' ev b, LL.call n_history_Recorder_Pick [.p rc 0, .i .i64 pick] sg sg.length = some (.t [ev, .b b], sg', sg.length) ∧ sg'.length = sg.length ∧ RC er rc sg' (pickR x pick) e' := by
 have hcs : x.cs.length ≤ 1000 := by have := hI.cs; omega
 have hst := hI.st
 by_cases hb : busyO x.fs 0 = []
 ·have P := c_history_Pick_none er rc e x.M x.fs x.cs x.ats sg h.R h.hrc h.dc hI.a6 hcs pick hb
  have hx : pickR x pick = x := by unfold pickR; rw [hb, pickL_nil]
  rw [hx]
  exact ⟨sg, e, _, _, P, rfl, h⟩
 ·obtain ⟨n, f, hn, hf⟩ := pick_some hb pick
  have hx : pickR x pick = pickE x n f := by unfold pickR; rw [hn]; simp only; rw [hf]
  rw [hx]
  obtain ⟨sg', e', A1, A2, A3, A4, A5, A6, A7, A8, A9, A10, A11⟩ := c_history_Pick er rc e x.M x.fs x.cs x.ats sg h.R h.hrc h.dc hI.a6 hcs i (by omega) (by rw [h.ek, h.ep]; exact hI.leg) (by rw [h.est]; omega) (by rw [h.ek]; exact hI.mi) (by rw [h.ek]; exact hI.fi) hI.al pick n hn f hf
  rw [h.ek, h.ep] at A1 A3 A4
  rw [h.est] at A4
  refine ⟨sg', e', _, _, A1, A2, ⟨A3, A5.trans h.ek, A6.trans h.ep, A8.trans h.ecl, by rw [A9, h.est]; rfl, A4, ?_⟩⟩
  rintro (ho | ho | ⟨j, ho⟩)
  ·exact h.dc (.inl ho)
  ·exact h.dc (.inr (.inl (by rw [← A7]; exact ho)))
  ·exact h.dc (.inr (.inr ⟨j, A11 j rc ho⟩))
structure RQ (x : RnS) : Prop where
 t : ∀ c ∈ x.cs, c.t < 6
 b : ∀ c ∈ x.cs, 0 ≤ c.b ∧ c.b ≤ x.st ∧ (c.e = -1 ∨ (c.b ≤ c.e ∧ c.e < x.st))
 o : ∀ (i : Nat) c d, x.cs[i]? = some c → x.cs[i + 1]? = some d → c.b ≤ d.b
 e : ∀ (i j : Nat) c d, i < j → x.cs[i]? = some c → x.cs[j]? = some d → 0 ≤ c.e → 0 ≤ d.e → c.e ≠ d.e
 s : ∀ (i j : Nat) c d, i < j → x.cs[i]? = some c → x.cs[j]? = some d → c.t = d.t → 0 ≤ c.e ∧ c.e < d.b
 w : ∀ (i : Nat) c, x.cs[i]? = some c → c.e = -1 → x.ats[c.t]? = some (i + 1)
 u : ∀ (t i : Nat), x.ats[t]? = some (i + 1) → ∃ c, x.cs[i]? = some c ∧ c.e = -1 ∧ c.t = t
 f : ∀ t : Nat, x.fs[t]? = some none → x.ats[t]? = some 0
 op : Cops x.k x.cs
theorem RQ.clw {x i} (h : RQ x) (hI : RI i x) (hi : i ≤ 1000) : Clw x.cs ∧ ¬ badC x.cs := by
 have hst := hI.st
 have hcs := hI.cs
 refine ⟨⟨h.t, fun c hc => ⟨(h.b c hc).1, ?_, ?_⟩, h.o, h.e, by omega⟩, ?_⟩
 ·rcases (h.b c hc).2.2 with h1 | h1
  ·exact .inl h1
  ·exact .inr h1.1
 ·rcases (h.b c hc).2.2 with h1 | h1 <;> omega
 ·rintro ⟨a, b, c, d, hl, hc, hd, h1, h2⟩
  exact h2 (h.s a b c d hl hc hd h1)
theorem RQ.beg {x i} (h : RQ x) (hI : RI i x) (f6 : x.fs.length = 6) (t : Int) (o : Rw) (ho : 2 * x.k - 1 ≤ o.k ∧ o.k ≤ (if x.k = 4 then 7 else 2 * x.k)) (hv : o.k = 5 → 0 ≤ o.x.v ∧ o.x.v ≤ 4294967296) (hx : o.x.ok) : RQ (begN x t o).1 := by
 unfold begN
 split
 ·rename_i hb
  have hb2 : 0 ≤ t ∧ t < 6 ∧ x.fs[t.toNat]? = some none := by
   unfold begO at hb
   split at hb
   ·omega
   rename_i h1
   split at hb
   ·omega
   split at hb
   ·omega
   split at hb
   ·omega
   rename_i h4
   obtain ⟨q, hq⟩ : ∃ q, x.fs[t.toNat]? = some q := ⟨x.fs[t.toNat], List.getElem?_eq_getElem (by omega)⟩
   rw [hq] at h4
   cases q with
   | none => exact ⟨by omega, by omega, hq⟩
   | some q => simp at h4
  obtain ⟨h0, h6, hf⟩ := hb2
  obtain ⟨n, hn⟩ : ∃ n : Nat, n = t.toNat := ⟨_, rfl⟩
  rw [← hn] at hf
  have hn6 : n < 6 := by omega
  have ha := h.f n hf
  have a6 := hI.a6
  have app : ∀ (j : Nat) c, (x.cs ++ [⟨n, o, x.st, -1, noA⟩])[j]? = some c → (j < x.cs.length ∧ x.cs[j]? = some c) ∨ (j = x.cs.length ∧ c = ⟨n, o, x.st, -1, noA⟩) := by
   intro j c hc
   by_cases hj : j < x.cs.length
   ·rw [List.getElem?_append_left hj] at hc; exact .inl ⟨hj, hc⟩
   ·have hj2 : j = x.cs.length := by
     have := (List.getElem?_eq_some_iff.1 hc).1
     simp at this; omega
    subst hj2
    simp at hc
    exact .inr ⟨rfl, hc.symm⟩
  simp only [← hn]
  refine ⟨?_, ?_, ?_, ?_, ?_, ?_, ?_, ?_, ?_⟩
  ·intro c hc
   rcases List.mem_append.1 hc with hc | hc
   ·exact h.t c hc
   ·simp at hc; subst hc; exact hn6
  ·intro c hc
   rcases List.mem_append.1 hc with hc | hc
   ·exact h.b c hc
   ·simp at hc; subst hc; exact ⟨by simp only; omega, by simp, .inl rfl⟩
  ·intro j c d hc hd
   rcases app j c hc with ⟨h1, h2⟩ | ⟨h1, h2⟩
   ·rcases app (j + 1) d hd with ⟨h3, h4⟩ | ⟨h3, h4⟩
    ·exact h.o j c d h2 h4
    ·subst h4; have := (h.b c (mem_of_get h2)).2.1; simpa using this
   ·rcases app (j + 1) d hd with ⟨h3, h4⟩ | ⟨h3, h4⟩ <;> omega
  ·intro j j2 c d hl hc hd e1 e2
   rcases app j2 d hd with ⟨h3, h4⟩ | ⟨h3, h4⟩
   ·rcases app j c hc with ⟨h1, h2⟩ | ⟨h1, h2⟩
    ·exact h.e j j2 c d hl h2 h4 e1 e2
    ·omega
   ·subst h4; simp at e2
  ·intro j j2 c d hl hc hd e1
   rcases app j c hc with ⟨h1, h2⟩ | ⟨h1, h2⟩
   ·rcases app j2 d hd with ⟨h3, h4⟩ | ⟨h3, h4⟩
    ·exact h.s j j2 c d hl h2 h4 e1
    ·subst h4
     simp only at e1 ⊢
     rcases (h.b c (mem_of_get h2)).2.2 with h5 | h5
     ·have := h.w j c h2 h5
      rw [e1, ha] at this
      cases this
     ·have := (h.b c (mem_of_get h2)).1
      omega
   ·rcases app j2 d hd with ⟨h3, h4⟩ | ⟨h3, h4⟩ <;> omega
  ·intro j c hc e1
   rcases app j c hc with ⟨h1, h2⟩ | ⟨h1, h2⟩
   ·have h3 := h.w j c h2 e1
    have : n ≠ c.t := by rintro rfl; rw [ha] at h3; cases h3
    simp only
    rw [List.getElem?_set_ne this]
    exact h3
   ·subst h2 h1
    simp only
    rw [List.getElem?_set_self (by omega)]
  ·intro t' j hj
   simp only at hj ⊢
   by_cases e1 : n = t'
   ·subst e1
    rw [List.getElem?_set_self (by omega)] at hj
    injection hj with hj
    have hj2 : j = x.cs.length := by omega
    subst hj2
    exact ⟨⟨n, o, x.st, -1, noA⟩, by simp, rfl, rfl⟩
   ·rw [List.getElem?_set_ne e1] at hj
    obtain ⟨c, h1, h2, h3⟩ := h.u t' j hj
    exact ⟨c, by rw [List.getElem?_append_left (List.getElem?_eq_some_iff.1 h1).1]; exact h1, h2, h3⟩
  ·intro t' ht
   simp only at ht ⊢
   by_cases e1 : n = t'
   ·subst e1
    rw [List.getElem?_set_self (by omega)] at ht
    cases ht
   ·rw [List.getElem?_set_ne e1] at ht ⊢
    exact h.f t' ht
  ·refine ⟨?_, ?_, ?_, ?_⟩
   all_goals
    intro c hc
    rcases List.mem_append.1 hc with hc | hc
   ·exact h.op.o c hc
   ·simp at hc; subst hc; exact ho
   ·exact h.op.v c hc
   ·simp at hc; subst hc; exact hv
   ·exact h.op.x c hc
   ·simp at hc; subst hc; exact hx
   ·exact h.op.a c hc
   ·simp at hc; subst hc; exact noA_ok
 ·exact h
theorem RQ.pickE {x i n f} (h : RQ x) (hI : RI i x) (hi : i ≤ 1000) (f6 : x.fs.length = 6) (hf : x.fs[n]? = some (some f)) : RQ (pickE x n f) := by
 have S := si_step hI.leg hI.mi (hI.fi n f hf) (by omega)
 have hn6 : n < 6 := by have := (List.getElem?_eq_some_iff.1 hf).1; omega
 have a6 := hI.a6
 unfold AM.pickE
 generalize stepP x.k x.p x.M f = so at *
 obtain ⟨a, ha⟩ : ∃ a, x.ats[n]? = some a := ⟨x.ats[n], List.getElem?_eq_getElem (by omega)⟩
 by_cases hw : so.d = true ∧ 0 < a
 ·obtain ⟨m, hm⟩ : ∃ m, a = m + 1 := ⟨a - 1, by omega⟩
  subst hm
  obtain ⟨c0, g1, g2, g3⟩ := h.u n m ha
  have er1 : recC x.cs x.ats n so.d x.st so.a = (x.cs.set m { c0 with e := x.st, a := so.a }, x.ats.set n 0) := by
   unfold recC; rw [ha]; simp only; rw [if_pos hw, show m + 1 - 1 = m by omega, g1]
  rw [er1]
  have hml := (List.getElem?_eq_some_iff.1 g1).1
  have st : ∀ (j : Nat) c, (x.cs.set m { c0 with e := x.st, a := so.a })[j]? = some c → (j ≠ m ∧ x.cs[j]? = some c) ∨ (j = m ∧ c = { c0 with e := x.st, a := so.a }) := by
   intro j c hc
   by_cases e1 : m = j
   ·subst e1; rw [List.getElem?_set_self hml] at hc; injection hc with hc; exact .inr ⟨rfl, hc.symm⟩
   ·rw [List.getElem?_set_ne e1] at hc; exact .inl ⟨fun e => e1 e.symm, hc⟩
  have mem : ∀ c ∈ x.cs.set m { c0 with e := x.st, a := so.a }, c ∈ x.cs ∨ c = { c0 with e := x.st, a := so.a } := fun c hc => List.mem_or_eq_of_mem_set hc
  have hc0 := mem_of_get g1
  have b0 := h.b c0 hc0
  have hd1 := hw.1
  refine ⟨?_, ?_, ?_, ?_, ?_, ?_, ?_, ?_, ?_⟩
  ·intro c hc
   rcases mem c hc with hc | rfl
   ·exact h.t c hc
   ·exact h.t c0 hc0
  ·intro c hc
   simp only
   rcases mem c hc with hc | rfl
   ·have := h.b c hc; omega
   ·simp only; omega
  ·intro j c d hc hd
   rcases st j c hc with ⟨_, h1⟩ | ⟨h0, rfl⟩ <;> rcases st (j + 1) d hd with ⟨_, h2⟩ | ⟨h0', rfl⟩
   ·exact h.o j c d h1 h2
   ·subst h0'; exact h.o j c c0 h1 g1
   ·subst h0; exact h.o j c0 d g1 h2
   ·omega
  ·intro j j2 c d hl hc hd e1 e2
   rcases st j c hc with ⟨_, h1⟩ | ⟨h0, rfl⟩ <;> rcases st j2 d hd with ⟨_, h2⟩ | ⟨h0', rfl⟩
   ·exact h.e j j2 c d hl h1 h2 e1 e2
   ·have := (h.b c (mem_of_get h1)).2.2; simp only; omega
   ·have := (h.b d (mem_of_get h2)).2.2; simp only; omega
   ·omega
  ·intro j j2 c d hl hc hd e1
   rcases st j c hc with ⟨_, h1⟩ | ⟨h0, rfl⟩ <;> rcases st j2 d hd with ⟨_, h2⟩ | ⟨h0', rfl⟩
   ·exact h.s j j2 c d hl h1 h2 e1
   ·subst h0'; exact h.s j j2 c c0 hl h1 g1 e1
   ·subst h0; have := h.s j j2 c0 d hl g1 h2 e1; omega
   ·omega
  ·intro j c hc e1
   rcases st j c hc with ⟨h0, h1⟩ | ⟨h0, rfl⟩
   ·have h3 := h.w j c h1 e1
    have : n ≠ c.t := by
     intro e; rw [← e, ha] at h3; injection h3 with h3; omega
    simp only
    rw [List.getElem?_set_ne this]; exact h3
   ·simp at e1
  ·intro t' j hj
   simp only at hj ⊢
   by_cases e1 : n = t'
   ·subst e1
    rw [List.getElem?_set_self (by omega)] at hj
    cases hj
   ·rw [List.getElem?_set_ne e1] at hj
    obtain ⟨c, h1, h2, h3⟩ := h.u t' j hj
    have : m ≠ j := by intro e; rw [← e, g1] at h1; cases h1; exact e1 (g3.symm.trans h3)
    exact ⟨c, by rw [List.getElem?_set_ne this]; exact h1, h2, h3⟩
  ·intro t' ht
   simp only at ht ⊢
   by_cases e1 : n = t'
   ·subst e1
    rw [List.getElem?_set_self (by omega)]
   ·rw [List.getElem?_set_ne e1] at ht ⊢
    exact h.f t' ht
  ·refine ⟨?_, ?_, ?_, ?_⟩
   all_goals
    intro c hc
    rcases mem c hc with hc | rfl
   ·exact h.op.o c hc
   ·exact h.op.o c0 hc0
   ·exact h.op.v c hc
   ·exact h.op.v c0 hc0
   ·exact h.op.x c hc
   ·exact h.op.x c0 hc0
   ·exact h.op.a c hc
   ·exact S.x
 ·have er1 : recC x.cs x.ats n so.d x.st so.a = (x.cs, x.ats) := by
   unfold recC; rw [ha]; simp only; rw [if_neg hw]
  rw [er1]
  refine { h with b := ?_, f := ?_ }
  ·intro c hc
   have := h.b c hc
   simp only; omega
  ·intro t' ht
   simp only at ht ⊢
   by_cases e1 : n = t'
   ·subst e1
    rw [List.getElem?_set_self (by omega)] at ht
    cases hd : so.d with
    | false => rw [hd] at ht; simp at ht
    | true =>
     have : a = 0 := by
      by_cases h0 : 0 < a
      ·exact absurd ⟨hd, h0⟩ hw
      ·omega
     rw [ha, this]
   ·rw [List.getElem?_set_ne e1] at ht
    exact h.f t' ht
end Go.AM

namespace Go.AM
theorem begN_kp (x : RnS) (t : Int) (o : Rw) : (begN x t o).1.k = x.k ∧ (begN x t o).1.p = x.p := by unfold begN; split <;> exact ⟨rfl, rfl⟩
theorem pickR_kp (x : RnS) (pick : Int) : (pickR x pick).k = x.k ∧ (pickR x pick).p = x.p := by
 unfold pickR
 split
 ·exact ⟨rfl, rfl⟩
 ·split <;> exact ⟨rfl, rfl⟩
theorem RI.pickR {i x} (h : RI i x) (hi : i ≤ 5000) (pick : Int) : RI (i + 1) (pickR x pick) := by
 unfold AM.pickR
 split
 ·exact h.mono
 ·split
  ·rename_i f hf
   have := h.pickE hi hf
   exact { this with tk := (by have := h.tk; show x.tk ≤ i + 1 + 1; omega), sc := this.sc, one := this.one }
  ·exact h.mono
theorem RQ.pickR {x i} (h : RQ x) (hI : RI i x) (hi : i ≤ 1000) (f6 : x.fs.length = 6) (pick : Int) : RQ (pickR x pick) := by
 unfold AM.pickR
 split
 ·exact h
 ·split
  ·rename_i f hf
   exact h.pickE hI hi f6 hf
  ·exact h
theorem RI.up {x} : ∀ (j i : Nat), RI i x → RI (i + j) x
 | 0, _, h => h
 | j + 1, i, h => (RI.up j i h).mono
set_option maxRecDepth 20000 in
set_option maxHeartbeats 8000000 in
theorem c_law15_Play {er rc : Nat} {sg : List (List D)} {x : RnS} {e : Eng} (h : RC er rc sg x e) (hI : RI 0 x) (hQ : RQ x) (acts : List Act) (hact : ∀ a ∈ acts, a.o.ok) :
    ∃ r : D × List (List D) × Nat, LL.call n_c_law15_Play [.p rc 0, .i .i64 x.k, .l .z 8 (acts.map eAct)] sg sg.length = some r ∧
     (r.1 = .t [] ∧ (∃ x' e', RC er rc r.2.1 x' e' ∧ RI 240 x' ∧ RQ x' ∧ x'.k = x.k ∧ x'.p = x.p) ∧ ((r.2.2 = er ∧ sg.length ≤ r.2.1.length) ∨ (r.2.2 = sg.length ∧ r.2.1.length = sg.length))) := by
 have hkr := legal_k hI.leg
 have hel : er < sg.length := get_lt h.R.hr
 obtain ⟨k, hk⟩ : ∃ k, k = x.k := ⟨_, rfl⟩
 obtain ⟨p, hp⟩ : ∃ p, p = x.p := ⟨_, rfl⟩
 rw [← hk, ← hp]
 rw [← hk] at hkr
 have hzz : ∀ l : List Act, D.zzs (l.map eAct) = l.map eAct := fun l => zzs_flat eAct l
 refine wp_call_e2 e_c_law15_Play rfl ?_
 simp [F_c_law15_Play, hzz]
 refine wc_lst (acts.take 120) (fun i (b : List (List D) × Nat) => ⟨[(0, .v (.p rc 0)), (1, .v (.i .i64 k)), (2, .v (.l .z 8 (acts.map eAct))), (6, .v (.i .i64 i))], [], b.1, b.2⟩) (fun i rest b => (∃ x e, RC er rc b.1 x e ∧ RI (2 * i) x ∧ RQ x ∧ x.k = k ∧ x.p = p) ∧ ((b.2 = er ∧ sg.length ≤ b.1.length) ∨ (b.2 = sg.length ∧ b.1.length = sg.length))) (sg, sg.length) (by simp) ⟨⟨_, _, h, hI, hQ, hk.symm, hp.symm⟩, .inr ⟨rfl, rfl⟩⟩ ?_ ?_
 ·rintro i a rest ⟨sg1, lo⟩ hi hx ⟨⟨x1, e1, T, I, Q, hxk, hxp⟩, hlo⟩ ih
  simp only at T I ih hlo ⊢
  have hi120 : i < 120 := by simp at hi; omega
  have hia : i < acts.length := by simp at hi; omega
  have hx' : acts[i] = a := by rw [← hx]; simp
  have hao := hact a (by rw [← hx']; exact List.getElem_mem hia)
  have hii : (i : Int) < acts.length := by omega
  have hi6 : (i : Int) < 120 := by omega
  have w1 : IntKind.i64.wrap ((i : Int) + 1) = i + 1 := wrap64 (by omega)
  have e1 : (a.k % 256).tmod 14 = a.k % 256 % 14 := tmod_nn _ _ (by omega)
  obtain ⟨q, hq⟩ : ∃ q, q = a.k % 256 % 14 := ⟨_, rfl⟩
  rw [← hq] at e1
  have hql : 0 ≤ q ∧ q < 14 := by omega
  have w2 : IntKind.i64.wrap q = q := wrap64 (by omega)
  have hrc := T.hrc
  by_cases hq3 : q < 3
  ·obtain ⟨sg2, e2, lo2, B1, T1, K1⟩ := rc_beg T I (by omega) a.t (ownO k a.o)
   have I1 : RI (2 * (i + 1)) (begN x1 a.t (ownO k a.o)).1 := (I.beg _ _ (by rw [hxk]; exact fi_begin hkr _ hao)).mono
   have ho := ownO_ok hkr hao
   have hor := ownO_rng k hkr a.o
   have Q1 := Q.beg I T.R.f6 a.t (ownO k a.o) (by rw [hxk]; exact hor) ho.2 ho.1.1
   obtain ⟨k1, k2⟩ := begN_kp x1 a.t (ownO k a.o)
   have ih := ih (sg2, min lo lo2) ⟨⟨_, _, T1, I1, Q1, k1.trans hxk, k2.trans hxp⟩, by simp only; omega⟩
   have O1 := c_law06_Own k hkr a.o sg1
   simp [eRw, eOp] at O1 B1
   simp at ih
   simp [eRec] at hrc
   have hel1 := get_lt T.R.hr
   simp [hii, hi6, hia, hx', eAct, i64_255, e1, w2, hq3, O1, B1, w1]
   rw [show min lo (min sg1.length lo2) = min lo lo2 by omega]
   simpa using ih
  ·by_cases hq12 : q < 12
   ·obtain ⟨sg2, e2, ev, b, P1, L1, T1⟩ := rc_pick T I (by omega) a.p
    have I1 : RI (2 * (i + 1)) (pickR x1 a.p) := (I.pickR (by omega) a.p).mono
    have Q1 := Q.pickR I (by omega) T.R.f6 a.p
    obtain ⟨k1, k2⟩ := pickR_kp x1 a.p
    have ih := ih (sg2, min lo sg1.length) ⟨⟨_, _, T1, I1, Q1, k1.trans hxk, k2.trans hxp⟩, by simp only; omega⟩
    simp at ih
    simp [hii, hi6, hia, hx', eAct, i64_255, e1, w2, hq3, hq12, P1, w1]
    simpa using ih
   ·have ih := ih (sg1, lo) ⟨⟨_, _, T, I.mono.mono, Q, hxk, hxp⟩, hlo⟩
    simp at ih
    simp [hii, hi6, hia, hx', eAct, i64_255, e1, w2, hq3, hq12, w1]
    simpa using ih
 ·rintro ⟨sg1, lo⟩ ⟨⟨x1, e1, T, I, Q, hxk, hxp⟩, hlo⟩
  simp only at T I hlo
  have hif : (if sg.length ≤ lo then (D.t [], List.take sg.length sg1, lo) else (D.t [], sg1, lo)) = (D.t [], sg1, lo) := by
   split
   ·rw [List.take_of_length_le (by omega)]
   ·rfl
  have I2 : RI 240 x1 := by
   have := RI.up (240 - 2 * (acts.take 120).length) _ I
   rwa [show 2 * (acts.take 120).length + (240 - 2 * (acts.take 120).length) = 240 by simp; omega] at this
  by_cases h120 : acts.length ≤ 120
  ·have e1 : ((min 120 acts.length : Nat) : Int) = acts.length := by omega
   simp [e1]
   rw [hif]
   exact ⟨rfl, ⟨x1, ⟨_, T⟩, I2, Q, hxk, hxp⟩, hlo⟩
  ·have e1 : ((min 120 acts.length : Nat) : Int) = 120 := by omega
   have e2 : (120 : Int) < acts.length := by omega
   simp [e1, e2]
   rw [hif]
   exact ⟨rfl, ⟨x1, ⟨_, T⟩, I2, Q, hxk, hxp⟩, hlo⟩
end Go.AM

namespace Go.AM
def itX : It := ⟨4602678819172646912, 12345678⟩
theorem itX_ok : itX.ok := ⟨by decide, by decide⟩
theorem cntO_le (at_ : Int) : ∀ (l : List Cll) (n : Int), cntO at_ n l ≤ n + l.length
 | [], n => by simp [cntO]
 | c :: r, n => by
  rw [cntO]
  have := cntO_le at_ r (if c.o.k = 7 ∧ c.b ≤ at_ then n + 1 else n)
  simp only [List.length_cons]
  push_cast
  split at this <;> split <;> omega
theorem addO_le (at_ : Int) : ∀ (l : List Cll) (n : Int), (∀ c ∈ l, c.o.k = 5 → 0 ≤ c.o.x.v ∧ c.o.x.v ≤ 4294967296) → addO at_ n l ≤ n + l.length * 4294967296
 | [], n, _ => by simp [addO]
 | c :: r, n, h => by
  rw [addO]
  have := addO_le at_ r (if c.o.k = 5 ∧ 0 ≤ c.e ∧ c.e < at_ then n + c.o.x.v else n) (fun d hd => h d (by simp [hd]))
  have h1 := h c (by simp)
  simp only [List.length_cons]
  push_cast
  split at this
  ·rename_i h2
   have := h1 h2.1
   rw [if_pos h2]; omega
  ·rename_i h2
   rw [if_neg h2]; omega
theorem findI_none (x : It) : ∀ (l : List It) (i : Nat), (∀ y ∈ l, x.canon ≠ y.canon) → findI x l i = -1
 | [], _, _ => rfl
 | y :: l, i, h => by
  unfold findI
  rw [if_neg (h y (by simp))]
  exact findI_none x l (i + 1) (fun z hz => h z (by simp [hz]))
def NX (X : It) (v : Vl) : Prop := ∀ y ∈ v.is, X.canon ≠ y.canon
theorem NX.aft {X : It} {v : Vl} (h : NX X v) {o : Int} {x ai : It} {ok : Bool} {p : Int} (hx : X.canon ≠ x.canon) : NX X (aftV v o x ok ai p).1 := by
 unfold aftV
 split
 ·exact h
 split
 ·intro y hy
  obtain ⟨z, hz, rfl⟩ := List.mem_map.1 ((sortI_perm _).mem_iff.1 hy)
  rw [canonTwo]
  rcases List.mem_append.1 hz with hz | hz
  ·exact h z hz
  ·simp at hz; subst hz; exact hx
 split
 ·intro y hy
  rcases List.mem_append.1 hy with hy | hy
  ·exact h y hy
  ·simp at hy; subst hy; rw [canonTwo]; exact hx
 split
 ·split
  ·rename_i l' hl
   exact fun y hy => h y ((outI_mem hl).1 y hy)
  ·exact h
 split
 ·split
  ·rename_i l' hl
   exact fun y hy => h y ((outI_mem hl).1 y hy)
  ·exact h
 split
 ·exact h
 split <;> exact h
section
variable (p : Int) (l : List Cll) (i : Nat) (c : Cll) (hi : l[i]? = some c) (hn : l.length ≤ 1000)
 (hv : ∀ c ∈ l, c.o.k = 5 → 0 ≤ c.o.x.v ∧ c.o.x.v ≤ 4294967296) (hx : ∀ c ∈ l, itX.canon ≠ c.o.x.canon)
 (ck : c.o.k = 7 ∨ c.o.k = 4 ∨ c.o.k = 2 ∨ c.o.k = 6) (ca : c.a = ⟨true, itX, 36028797018963968⟩)
include hi hn hv hx ck ca
theorem fails_i (v : Vl) (h : NX itX v) (N : List Int) : ¬ ((aftV v c.o.k c.o.x c.a.ok c.a.x p).2 = true ∧ mayO 0 l N c = true) := by
 rintro ⟨h1, h2⟩
 have hf := findI_none itX v.is 0 h
 rcases ck with e | e | e | e
 ·unfold mayO at h2
  rw [if_neg (by omega), if_pos e] at h2
  have h3 := of_decide_eq_true h2
  have h4 := cntO_le c.e l 0
  rw [ca] at h3
  simp only at h3
  omega
 ·rw [e, ca] at h1
  unfold aftV outI at h1
  simp [hf] at h1
 ·rw [e, ca] at h1
  unfold aftV outI at h1
  simp [hf] at h1
 ·unfold mayO at h2
  rw [if_pos e] at h2
  have h3 := of_decide_eq_true h2
  have h4 := addO_le c.e l 0 hv
  rw [ca] at h3
  simp only at h3
  omega
theorem tells : ∀ (r dk : List Nat) (v : Vl), NX itX v → i ∈ r → (∀ j ∈ r, j < l.length) → r.Pairwise (fun a b => enD l a ≤ enD l b) →
    ∃ j : Nat, (runL 0 p l v dk r).2 = (j : Int) ∧ j < l.length ∧ enD l j ≤ enD l i
 | [], _, _, _, h, _, _ => by cases h
 | j :: r, dk, v, hN, hir, hjr, hpw => by
  have hj := hjr j (by simp)
  obtain ⟨d, hd⟩ : ∃ d, l[j]? = some d := ⟨_, List.getElem?_eq_getElem hj⟩
  rw [runL, hd]
  simp only
  by_cases hgo : (aftV v d.o.k d.o.x d.a.ok d.a.x p).2 = true ∧ mayO 0 l (numsD l dk) d = true
  ·rw [if_pos hgo]
   have hji : j ≠ i := by
    rintro rfl
    rw [hi] at hd
    cases hd
    exact fails_i p l j c hi hn hv hx ck ca v hN _ hgo
   have hir2 : i ∈ r := by
    rcases List.mem_cons.1 hir with h | h
    ·exact absurd h.symm hji
    ·exact h
   exact tells r (dk ++ [j]) _ (hN.aft (hx d (mem_of_get hd))) hir2 (fun y hy => hjr y (by simp [hy])) (List.pairwise_cons.1 hpw).2
  ·rw [if_neg hgo]
   refine ⟨j, rfl, hj, ?_⟩
   rcases List.mem_cons.1 hir with h | h
   ·rw [h]; exact Int.le_refl _
   ·exact (List.pairwise_cons.1 hpw).1 i h
end
def sameT (l l' : List Cll) : Prop := l'.length = l.length ∧ ∀ (j : Nat) c', l'[j]? = some c' → ∃ c, l[j]? = some c ∧ c.t = c'.t ∧ c.b = c'.b ∧ c.e = c'.e
theorem sameT.clw {l l' : List Cll} (h : sameT l l') (H : Clw l) (hb : ¬ badC l) : Clw l' ∧ ¬ badC l' := by
 obtain ⟨h0, h1⟩ := h
 have hm : ∀ c' ∈ l', ∃ c ∈ l, c.t = c'.t ∧ c.b = c'.b ∧ c.e = c'.e := by
  intro c' hc'
  obtain ⟨j, hj, rfl⟩ := List.getElem_of_mem hc'
  obtain ⟨c, g1, g2⟩ := h1 j _ (List.getElem?_eq_getElem hj)
  exact ⟨c, mem_of_get g1, g2⟩
 refine ⟨⟨?_, ?_, ?_, ?_, by have := H.n; omega⟩, ?_⟩
 ·intro c' hc'
  obtain ⟨c, g1, g2, g3, g4⟩ := hm c' hc'
  rw [← g2]; exact H.t c g1
 ·intro c' hc'
  obtain ⟨c, g1, g2, g3, g4⟩ := hm c' hc'
  rw [← g3, ← g4]; exact H.b c g1
 ·intro j c' d' hc hd
  obtain ⟨c, g1, g2, g3, g4⟩ := h1 j c' hc
  obtain ⟨d, k1, k2, k3, k4⟩ := h1 (j + 1) d' hd
  rw [← g3, ← k3]; exact H.o j c d g1 k1
 ·intro j j2 c' d' hl hc hd e1 e2
  obtain ⟨c, g1, g2, g3, g4⟩ := h1 j c' hc
  obtain ⟨d, k1, k2, k3, k4⟩ := h1 j2 d' hd
  rw [← g4] at e1 ⊢
  rw [← k4] at e2 ⊢
  exact H.e j j2 c d hl g1 k1 e1 e2
 ·rintro ⟨j, j2, c', d', hl, hc, hd, q1, q2⟩
  obtain ⟨c, g1, g2, g3, g4⟩ := h1 j c' hc
  obtain ⟨d, k1, k2, k3, k4⟩ := h1 j2 d' hd
  exact hb ⟨j, j2, c, d, hl, g1, k1, by rw [g2, k2]; exact q1, by rw [g4, k3]; exact q2⟩
theorem cps_eCll : ∀ l : List Cll, D.cps (l.map eCll) = some (l.map eCll)
 | [] => rfl
 | c :: l => by
  have e : D.cp (eCll c) = some (eCll c) := rfl
  simp only [List.map_cons, D.cps, e, cps_eCll l]
theorem c_history_Calls (er rc : Nat) (cs : List Cll) (ats : List Nat) (sg : List (List D)) (hrc : sg[rc]? = some (eRec er cs ats)) (hcs : cs.length ≤ 1000) :
    LL.call n_history_Recorder_Calls [.p rc 0] sg sg.length = some (.l .x 12 (cs.map eCll), sg, sg.length) := by
 refine wp_call e_history_Recorder_Calls rfl ?_
 simp [eRec] at hrc
 have hap : cs.length * 96 ≤ 140737488355328 := by omega
 have hz : D.fzs (cs.map eCll) = cs.map eCll := fzs_flat eCll _
 simp [F_history_Recorder_Calls, hrc, hap, hz, cps_eCll]
theorem rc0 (k : Int) (p : Nat) : RC 1 2 [eMem ⟨[], 0⟩, eEng (newE k p 0), eRec 1 [] [0, 0, 0, 0, 0, 0]] (rn0 k p) (newE k p 0) := by
 have ho : ∀ y, own 1 (newE k p 0) y → y = 1 ∨ y = 0 := by
  rintro y (h | h | ⟨i, h⟩)
  ·exact .inl h
  ·exact .inr h
  ·exact absurd h (nn6 i y)
 refine ⟨⟨by simp, by simp [newE, rn0], rfl, rfl, fun i q h => absurd h (nn6 i q), n06, by simp [newE], fun i q h => absurd h (nn6 i q), fun i j q h => absurd h (nn6 i q)⟩, rfl, rfl, rfl, rfl, by simp [rn0], fun h => ?_⟩
 rcases ho _ h with h | h <;> omega
theorem rq0 (k : Int) (p : Nat) : RQ (rn0 k p) := by
 refine ⟨by simp [rn0], by simp [rn0], by simp [rn0], by simp [rn0], by simp [rn0], by simp [rn0], ?_, ?_, ⟨by simp [rn0], by simp [rn0], by simp [rn0], by simp [rn0]⟩⟩
 ·intro t i h
  have : t = 0 ∨ t = 1 ∨ t = 2 ∨ t = 3 ∨ t = 4 ∨ t = 5 ∨ 6 ≤ t := by omega
  rcases this with rfl | rfl | rfl | rfl | rfl | rfl | h6 <;> first | (simp [rn0] at h; done) | (simp only [rn0] at h; rw [List.getElem?_eq_none (by simpa using h6)] at h; cases h)
 ·intro t h
  have : t = 0 ∨ t = 1 ∨ t = 2 ∨ t = 3 ∨ t = 4 ∨ t = 5 ∨ 6 ≤ t := by omega
  rcases this with rfl | rfl | rfl | rfl | rfl | rfl | h6 <;> first | rfl | (simp only [rn0] at h; rw [List.getElem?_eq_none (by simpa using h6)] at h; cases h)
end Go.AM

namespace Go.AM
def chkM (P : Program) (t : TypeId) (nm : String) (f : FuncId) : Bool := match P.info? t with
 | some i => match i.methods.find? (·.name == nm) with
  | some m => m.path.toList.isEmpty && (match m.func with
   | some (g, true) => (match P.underlying t with | some (.pointer _) => g == f && decide (f < Q0) | _ => false)
   | some (g, false) => (match P.underlying t with
    | some (.pointer e) => decide (Q0 ≤ f) && g == f - Q0 && aggT P e == some false && szT P e == some 1
    | some _ => g == f && decide (f < Q0)
    | none => false)
   | none => false)
  | none => false
 | none => false
theorem wrap_ok (ts : Array TypeId) (t : TypeId) (a : Addr) (s1 s2 : String) : Builtin.ssaWrapNilChk_ ts t #[.pointer (some a), strVal s1, strVal s2] = pure (.pointer (some a)) := rfl
theorem meth_one {P : Program} {t nm f} (h : chkM P t nm f = true) :
    (f < Q0 → ∀ v w, (method (P.types.size + Made.depth) t v nm).run P w = .ok (f, v) w) ∧
    (Q0 ≤ f → ∀ b off u w, World.cell? w ⟨b, off, none⟩ = some u → (method (P.types.size + Made.depth) t (.pointer (some ⟨b, off, none⟩)) nm).run P w = .ok (f - Q0, u) w) := by
 unfold chkM at h
 split at h
 ·rename_i i hi
  split at h
  ·rename_i m hm
   simp only [Bool.and_eq_true] at h
   obtain ⟨hp, h⟩ := h
   have hp' : m.path.toList = [] := List.isEmpty_iff.1 hp
   obtain ⟨n, hn⟩ : ∃ n, P.types.size + Made.depth = n + 1 := ⟨P.types.size + 99, rfl⟩
   rw [hn]
   split at h
   ·rename_i g hg
    split at h
    ·rename_i e hu
     simp only [Bool.and_eq_true, beq_iff_eq, decide_eq_true_eq] at h
     obtain ⟨rfl, hf⟩ := h
     refine ⟨fun _ v w => ?_, fun hq => absurd hf (Nat.not_lt.2 hq)⟩
     simp [method, typeInfo, hi, hm, hp', follow, hg, receiverAt, underlying, hu, Place.get]
    ·cases h
   ·rename_i g hg
    split at h
    ·rename_i e hu
     simp only [Bool.and_eq_true, beq_iff_eq, decide_eq_true_eq] at h
     obtain ⟨⟨⟨hf, hgf⟩, ha⟩, hs⟩ := h
     refine ⟨fun hq => absurd hq (Nat.not_lt.2 hf), fun _ b off u w hc => ?_⟩
     have hrun := run_load' (P := P) (w := w) (t := e) (b := b) (off := off) (us := [u]) ha hs (.inr rfl) rfl (fun j v hj => by
      cases j with
      | zero => simp at hj; subst hj; simpa using hc
      | succ j => simp at hj)
     simp only [Instr.loadAt, Instr.sureAddr] at hrun
     have hpe : m.path = #[] := by simpa using hp
     simp at hrun
     simp [method, typeInfo, hi, hm, hp', hpe, follow, hg, receiverAt, underlying, hu, Place.get, wrap_ok, asAddr, hrun, hgf]
    ·rename_i d hne hu
     simp only [Bool.and_eq_true, beq_iff_eq, decide_eq_true_eq] at h
     obtain ⟨rfl, hf⟩ := h
     refine ⟨fun _ v w => ?_, fun hq => absurd hf (Nat.not_lt.2 hq)⟩
     simp [method, typeInfo, hi, hm, hp', follow, hg, receiverAt, underlying, hu, Place.get]
    ·cases h
   ·cases h
  ·cases h
 ·cases h
theorem nil_one {P : Program} {t nm f} (h : chkM P t nm f = true) : NilOK P t nm f := by
 intro hf v w
 unfold chkM at h
 split at h
 ·rename_i i hi
  split at h
  ·rename_i m hm
   simp only [Bool.and_eq_true] at h
   obtain ⟨hp, h⟩ := h
   have hp' : m.path.toList = [] := List.isEmpty_iff.1 hp
   obtain ⟨n, hn⟩ : ∃ n, P.types.size + Made.depth = n + 1 := ⟨P.types.size + 99, rfl⟩
   rw [hn]
   split at h
   ·rename_i g hg
    simp [nilAhead, typeInfo, hi, hm, hp', followBlind, hg]
   ·rename_i g hg
    split at h
    ·rename_i e hu
     simp only [Bool.and_eq_true, beq_iff_eq, decide_eq_true_eq] at h
     exact absurd hf (Nat.not_lt.2 h.1.1.1)
    ·rename_i d hne hu
     simp [nilAhead, typeInfo, hi, hm, hp', followBlind, hg, underlying, hu]
     cases d <;> first | (exfalso; exact hne _ rfl) | rfl
    ·cases h
   ·cases h
  ·cases h
 ·cases h
theorem meth_all {P : Program} {T : List (TypeId × String × FuncId)} (h : T.all (fun p => chkM P p.1 p.2.1 p.2.2) = true) :
    MethOK P (fun t nm => (T.find? fun p => p.1 == t && p.2.1 == nm).map (·.2.2)) := by
 intro t nm f hf
 simp only [Option.map_eq_some_iff] at hf
 obtain ⟨⟨t', nm', f'⟩, h1, rfl⟩ := hf
 have h2 := List.find?_some h1
 simp only [Bool.and_eq_true, beq_iff_eq] at h2
 obtain ⟨rfl, rfl⟩ := h2
 have h3 := List.all_eq_true.1 h _ (List.mem_of_find?_eq_some h1)
 exact ⟨(meth_one h3).1, (meth_one h3).2, nil_one h3⟩
end Go.AM

namespace Go.AM
open Go.Proofs
set_option maxRecDepth 100000
theorem fol : Try.prog.follows .mixedOrders = true := by kernel_rfl
theorem tab_ok : tab.all (fun p => chkFn Try.prog EE.fbits EE.frb (rid p.1) p.2) = true := by kernel_rfl
theorem look_in {α : Type} {k : Nat} {x : α} : ∀ {l : List (Nat × α)}, look k l = some x → (k, x) ∈ l
 | (j, y) :: r, h => by
  simp only [look] at h
  split at h
  ·rename_i e; cases h; subst e; simp
  ·exact List.mem_cons_of_mem _ (look_in h)
theorem libF : LibF Try.prog EE := toldF fun f ds d h => by
 have h : libL f ds = some d := h
 unfold libL at h
 split at h
 ·rename_i e; exact .inl ⟨e, h⟩
 split at h
 ·rename_i e; exact .inr ⟨e, h⟩
 ·cases h
theorem env_ok : EnvOK Try.prog EE := ⟨fun f af h => List.all_eq_true.1 tab_ok (f, af) (look_in h), libF, fun _ _ _ _ _ h => nomatch h⟩
theorem meth_ok : methL.all (fun p => chkM Try.prog p.1 p.2.1 p.2.2) = true := by kernel_rfl
theorem lib_ok : Lib Try.prog EE.fbits EE.frb EE.meth where
 bits := fun f h n w => by cases h; rfl
 frb := fun f h n w => by cases h; rfl
 meth := meth_all meth_ok
end Go.AM

namespace Go.AM
open Go.Proofs
set_option maxRecDepth 100000 in
theorem c_law15_awake : LL.call n_c_law15_awake [] [] 0 = some (.b true, [], 0) := lim_call.2 ⟨100, by kernel_rfl⟩
def toldB (c : Cll) : Bool := decide (0 ≤ c.e) && (c.a.ok && (decide (c.o.k = 7) || decide (c.o.k = 4) || decide (c.o.k = 2) || decide (c.o.k = 6)))
def tlF (l : List Cll) : Nat → List Nat
 | 0 => []
 | i + 1 => match l[i]? with
  | some c => if toldB c then tlF l i ++ [i] else tlF l i
  | none => tlF l i
theorem tlF_len (l : List Cll) : ∀ n, (tlF l n).length ≤ n
 | 0 => by simp [tlF]
 | n + 1 => by
  have := tlF_len l n
  unfold tlF
  split
  ·split
   ·simp; omega
   ·omega
  ·omega
theorem tlF_mem (l : List Cll) : ∀ (n j : Nat), j ∈ tlF l n → ∃ c, l[j]? = some c ∧ toldB c = true
 | 0, j, h => by cases h
 | n + 1, j, h => by
  unfold tlF at h
  split at h
  ·rename_i c hc
   split at h
   ·rename_i h0
    rcases List.mem_append.1 h with h | h
    ·exact tlF_mem l n j h
    ·simp at h; subst h; exact ⟨c, hc, h0⟩
   ·exact tlF_mem l n j h
  ·exact tlF_mem l n j h
set_option maxRecDepth 20000 in
set_option maxHeartbeats 8000000 in
theorem laxTells (kind param : Int) (acts : List Act) (which : Int) (hact : ∀ a ∈ acts, a.o.ok) :
    LL.call n_c_law15_LaxTells [.i .i64 kind, .i .i64 param, .l .z 8 (acts.map eAct), .i .i64 which] [] 0 = some (.b true, [], 0) := by
 have hA := c_law15_awake
 have K := c_law12_Kind kind param []
 have hleg := legal_kind kind param
 have hkr := kindOf_le kind
 have hpr := paramOf_le kind param
 obtain ⟨k, hk⟩ : ∃ k, k = kindOf kind := ⟨_, rfl⟩
 obtain ⟨p, hp⟩ : ∃ p : Nat, paramOf kind param = p := ⟨(paramOf kind param).toNat, by omega⟩
 rw [← hk] at K hleg hkr
 rw [hp] at K hleg
 have NW := c_engine_New k p []
 rw [if_pos hleg] at NW
 obtain ⟨⟨d0, sg1, lo⟩, hP, hd, ⟨x, e, T, I, Q, hxk, hxp⟩, hlo⟩ := c_law15_Play (rc0 k p) (ri0 hleg) (rq0 k p) acts hact
 simp only at hd T hlo
 subst hd
 have hO := c_history_Of 1 [eMem ⟨[], 0⟩, eEng (newE k p 0)]
 obtain ⟨s2, hs2⟩ : ∃ s2, s2 = [eMem ⟨[], 0⟩, eEng (newE k p 0)] := ⟨_, rfl⟩
 obtain ⟨s3, hs3⟩ : ∃ s3, s3 = [eMem ⟨[], 0⟩, eEng (newE k p 0), eRec 1 [] [0, 0, 0, 0, 0, 0]] := ⟨_, rfl⟩
 have hs23 : s2 ++ [eRec 1 [] [0, 0, 0, 0, 0, 0]] = s3 := by rw [hs2, hs3]; rfl
 have hl2 : s2.length = 2 := by rw [hs2]; rfl
 have hl3 : s3.length = 3 := by rw [hs3]; rfl
 simp only [List.length_nil, List.nil_append, Nat.zero_add, Int.toNat_natCast] at NW
 rw [← hs2] at NW hO
 rw [hs23, hl2] at hO
 rw [← hs3, hl3] at hP
 have hkk : (rn0 k p).k = k := rfl
 rw [hkk] at hP hxk
 have hcs : x.cs.length ≤ 240 := I.cs
 have hCa := c_history_Calls 1 2 x.cs x.ats sg1 T.hrc (by omega)
 obtain ⟨cs, hcse⟩ : ∃ cs, cs = x.cs := ⟨_, rfl⟩
 rw [← hcse] at hCa hcs
 have hzz : ∀ l : List Act, D.zzs (l.map eAct) = l.map eAct := fun l => zzs_flat eAct l
 refine wp_call e_c_law15_LaxTells rfl ?_
 simp at K
 simp [F_c_law15_LaxTells, hA, K, NW, hO, hP, hCa, hzz, hl2, hl3]
 refine wc_up cs.length (fun i => ⟨[(0, .v (.i .i64 k)), (1, .v (.i .i64 p)), (3, .v (.i .i64 which)), (12, .q (.hdr 12)), (13, .v (.l .o 1 ((tlF cs i).map eN))), (51, .q (.hdr 12)), (52, .v (.i .i64 cs.length)), (53, .v (.i .i64 i))], [(12, [.l .x 12 (cs.map eCll)])], sg1, 0⟩)
  (fun _ => True) ?_ ?_ 0 (by omega) trivial
 ·intro i hi _ ih
  have ih := ih trivial
  obtain ⟨c, q0⟩ : ∃ c, cs[i] = c := ⟨_, rfl⟩
  have q1 : cs[i]? = some c := by rw [← q0]; exact List.getElem?_eq_getElem hi
  have w1 : IntKind.i64.wrap ((i : Int) + 1) = i + 1 := wrap64 (by omega)
  have hln := tlF_len cs i
  have hap : (tlF cs i).length * 8 ≤ 140737488355328 := by omega
  have hap2 : ((tlF cs i).length + 1) * 8 ≤ 140737488355328 := by omega
  have e1 : tlF cs (i + 1) = if toldB c = true then tlF cs i ++ [i] else tlF cs i := by rw [tlF, q1]
  rw [e1] at ih
  by_cases h0 : 0 ≤ c.e
  ·cases h1 : c.a.ok with
   | true =>
    by_cases h7 : c.o.k = 7
    ·have ht : toldB c = true := by simp [toldB, h0, h1, h7]
     rw [if_pos ht] at ih
     simp [hi, q0, eCll, h0, h1, h7, w1, hap, hap2]
     simpa [eCll, eN] using ih
    ·have h7' : (c.o.k == 7) = false := by simp [h7]
     by_cases h4 : c.o.k = 4
     ·have ht : toldB c = true := by simp [toldB, h0, h1, h4]
      rw [if_pos ht] at ih
      simp [hi, q0, eCll, h0, h1, h7', h4, w1, hap, hap2]
      simpa [eCll, eN] using ih
     ·have h4' : (c.o.k == 4) = false := by simp [h4]
      by_cases h2 : c.o.k = 2
      ·have ht : toldB c = true := by simp [toldB, h0, h1, h2]
       rw [if_pos ht] at ih
       simp [hi, q0, eCll, h0, h1, h7', h4', h2, w1, hap, hap2]
       simpa [eCll, eN] using ih
      ·have h2' : (c.o.k == 2) = false := by simp [h2]
       by_cases h6 : c.o.k = 6
       ·have ht : toldB c = true := by simp [toldB, h0, h1, h6]
        rw [if_pos ht] at ih
        simp [hi, q0, eCll, h0, h1, h7', h4', h2', h6, w1, hap, hap2]
        simpa [eCll, eN] using ih
       ·have h6' : (c.o.k == 6) = false := by simp [h6]
        have ht : ¬ toldB c = true := by simp [toldB, h7, h4, h2, h6]
        rw [if_neg ht] at ih
        simp [hi, q0, eCll, h0, h1, h7', h4', h2', h6', w1, hap, hap2]
        simpa [eCll, eN] using ih
   | false =>
    have ht : ¬ toldB c = true := by simp [toldB, h1]
    rw [if_neg ht] at ih
    simp [hi, q0, eCll, h0, h1, w1]
    simpa [eCll, eN] using ih
  ·have ht : ¬ toldB c = true := by simp [toldB, h0]
   rw [if_neg ht] at ih
   simp [hi, q0, eCll, h0, w1]
   simpa [eCll, eN] using ih
 ·intro _
  have hln := tlF_len cs cs.length
  have hmem := tlF_mem cs cs.length
  generalize tlF cs cs.length = dd at *
  by_cases h0 : dd = []
  ·simp [h0]
  ·have hpos : 0 < dd.length := List.length_pos_iff.2 h0
   have hne : ¬ ((dd.length : Int) = 0) := by omega
   have hne' : ¬ dd.length = 0 := by omega
   have hneb : ((dd.length : Int) == 0) = false := by simp; exact h0
   obtain ⟨ix, hix⟩ : ∃ ix : Nat, (which % 256).tmod (dd.length : Int) = ix := ⟨((which % 256).tmod (dd.length : Int)).toNat, by rw [tmod_nn _ _ (by omega)]; have := Int.emod_nonneg (which % 256) (show (dd.length : Int) ≠ 0 by omega); omega⟩
   have hixl : ix < dd.length := by
    rw [tmod_nn _ _ (by omega)] at hix
    have := Int.emod_lt_of_pos (which % 256) (show (0 : Int) < dd.length by omega)
    omega
   obtain ⟨i, hdi⟩ : ∃ i, dd[ix] = i := ⟨_, rfl⟩
   obtain ⟨c, hci, htc⟩ := hmem i (by rw [← hdi]; exact List.getElem_mem _)
   have hil : i < cs.length := (List.getElem?_eq_some_iff.1 hci).1
   have wix : IntKind.i64.wrap (ix : Int) = ix := wrap64 (by omega)
   have hig : cs[i] = c := by have := hci; rw [List.getElem?_eq_getElem hil] at this; exact Option.some.inj this
   obtain ⟨l1, hl1⟩ : ∃ l1, l1 = cs.set i { c with a := ⟨c.a.ok, c.a.x, 36028797018963968⟩ } := ⟨_, rfl⟩
   have hs1 : (cs.map eCll).set i (eCll { c with a := ⟨c.a.ok, c.a.x, 36028797018963968⟩ }) = l1.map eCll := by rw [hl1, List.map_set]
   have hl1l : l1.length = cs.length := by rw [hl1]; simp
   simp [eCll] at hs1
   simp [h0, hne, hne', hneb, i64_255, hix, hixl, hdi, wix, eN, hil, hig, eCll, hs1]
   have hop1 : ∀ d ∈ l1, d.o.x.ok := by
    intro d hd
    rw [hl1] at hd
    rcases List.mem_or_eq_of_mem_set hd with hd | rfl
    ·exact Q.op.x d (by rw [← hcse]; exact hd)
    ·exact Q.op.x c (by rw [← hcse]; exact mem_of_get hci)
   refine wc_up l1.length (fun j => ⟨[(0, .v (.i .i64 k)), (1, .v (.i .i64 p)), (12, .q (.hdr 12)), (17, .v (.i .i64 i)), (106, .q (.hdr 12)), (107, .v (.i .i64 l1.length)), (108, .v (.i .i64 j))], [(12, [.l .x 12 (l1.map eCll)])], sg1, 0⟩)
    (fun j => ∀ (j' : Nat) d, j' < j → l1[j']? = some d → itX.canon ≠ d.o.x.canon) ?_ ?_ 0 (by omega) (fun _ _ h => by omega)
   ·intro j hj hp2 ih2
    obtain ⟨d, q0⟩ : ∃ d, l1[j] = d := ⟨_, rfl⟩
    have q1 : l1[j]? = some d := by rw [← q0]; exact List.getElem?_eq_getElem hj
    have w1 : IntKind.i64.wrap ((j : Int) + 1) = j + 1 := wrap64 (by omega)
    have hdo := hop1 d (mem_of_get q1)
    have C1 := c_pile_Item_Canon d.o.x hdo sg1
    have C2 := c_pile_Item_Cmp d.o.x.canon itX (canonOk hdo) itX_ok sg1
    have hz := cmpI_zero (canonOk hdo) itX_ok
    rw [canonTwo] at hz
    simp [itX] at C2
    simp at C1
    by_cases hc0 : cmpI d.o.x.canon itX = 0
    ·have hc0' := hc0
     simp only [itX] at hc0'
     rw [hc0'] at C2
     simp [hj, q0, eCll, C1, C2]
    ·have ih2 := ih2 (fun j' d' h1 h2 => by
      by_cases e : j' = j
      ·subst e; rw [q1] at h2; cases h2; exact fun h => hc0 (hz.2 h.symm)
      ·exact hp2 j' d' (by omega) h2)
     have hc0' : (cmpI d.o.x.canon ⟨4602678819172646912, 12345678⟩ == 0) = false := by simpa [itX] using hc0
     simp [hj, q0, eCll, C1, C2, hc0', w1]
     simpa [eCll] using ih2
   ·intro hp2
    have hlc : l1[i]? = some { c with a := ⟨c.a.ok, c.a.x, 36028797018963968⟩ } := by rw [hl1, List.getElem?_set_self hil]
    have hi1 : i < l1.length := by omega
    have hlg : l1[i] = { c with a := ⟨c.a.ok, c.a.x, 36028797018963968⟩ } := by have := hlc; rw [List.getElem?_eq_getElem hi1] at this; exact Option.some.inj this
    have hok : c.a.ok = true := by simp [toldB] at htc; exact htc.2.1
    have hck : c.o.k = 7 ∨ c.o.k = 4 ∨ c.o.k = 2 ∨ c.o.k = 6 := by simp [toldB] at htc; omega
    have he0 : 0 ≤ c.e := by simp [toldB] at htc; exact htc.1
    obtain ⟨l2, hl2'⟩ : ∃ l2, l2 = l1.set i { c with a := ⟨c.a.ok, itX, 36028797018963968⟩ } := ⟨_, rfl⟩
    have hs2 : (l1.map eCll).set i (eCll { c with a := ⟨c.a.ok, itX, 36028797018963968⟩ }) = l2.map eCll := by rw [hl2', List.map_set]
    have hl2l : l2.length = l1.length := by rw [hl2']; simp
    have hset : l2 = cs.set i { c with a := ⟨c.a.ok, itX, 36028797018963968⟩ } := by rw [hl2', hl1, List.set_set]
    have hg2 : ∀ (j : Nat) d, l2[j]? = some d → (j ≠ i ∧ cs[j]? = some d) ∨ (j = i ∧ d = { c with a := ⟨c.a.ok, itX, 36028797018963968⟩ }) := by
     intro j d hd
     rw [hset] at hd
     by_cases e1 : i = j
     ·subst e1; rw [List.getElem?_set_self hil] at hd; injection hd with hd; exact .inr ⟨rfl, hd.symm⟩
     ·rw [List.getElem?_set_ne e1] at hd; exact .inl ⟨fun e => e1 e.symm, hd⟩
    have hi2 : l2[i]? = some { c with a := ⟨c.a.ok, itX, 36028797018963968⟩ } := by rw [hset, List.getElem?_set_self hil]
    obtain ⟨W0, B0⟩ := Q.clw I (by omega)
    rw [← hcse] at W0 B0
    obtain ⟨W2, B2⟩ := sameT.clw (l := cs) (l' := l2) ⟨by omega, fun j d hd => by
     rcases hg2 j d hd with ⟨_, h⟩ | ⟨rfl, rfl⟩
     ·exact ⟨d, h, rfl, rfl, rfl⟩
     ·exact ⟨c, hci, rfl, rfl, rfl⟩⟩ W0 B0
    have hmem2 : ∀ d ∈ l2, (∃ d' ∈ cs, d.o = d'.o) ∧ d.a.x.ok := by
     intro d hd
     rw [hset] at hd
     rcases List.mem_or_eq_of_mem_set hd with hd | rfl
     ·exact ⟨⟨d, hd, rfl⟩, Q.op.a d (by rw [← hcse]; exact hd)⟩
     ·exact ⟨⟨c, mem_of_get hci, rfl⟩, itX_ok⟩
    have Q0 := Q.op
    rw [← hcse, hxk] at Q0
    have HO : Cops k l2 := by
     refine ⟨?_, ?_, ?_, fun d hd => (hmem2 d hd).2⟩
     all_goals
      intro d hd
      obtain ⟨⟨d', hd', e1⟩, _⟩ := hmem2 d hd
      rw [e1]
     ·exact Q0.o d' hd'
     ·exact Q0.v d' hd'
     ·exact Q0.x d' hd'
    have hx2 : ∀ d ∈ l2, itX.canon ≠ d.o.x.canon := by
     intro d hd
     obtain ⟨j, hj, rfl⟩ := List.getElem_of_mem hd
     rcases hg2 j _ (List.getElem?_eq_getElem hj) with ⟨h1, h2⟩ | ⟨h1, h2⟩
     ·refine hp2 j _ (by omega) ?_
      rw [hl1, List.getElem?_set_ne (Ne.symm h1)]; exact h2
     ·have := hp2 i _ hi1 hlc
      rw [h2]; exact this
    have hds := fun j => (dnS_mem l2 l2.length j).1
    have hdl := dnS_len l2 l2.length
    have hen : enD l2 i = c.e := by simp [enD, hi2]
    have hCk := c_lax_CheckG k p ⟨k, [], 0⟩ l2 (fun sg => c_history_CheckL l2 W2 0 (fun h => absurd h B2) (fun _ => rfl) sg) (dnS l2 l2.length) (fun sg => c_history_DoneS l2 (by omega) (fun d hd => (W2.b d hd).2.2) sg) (fun j hj => (hds j hj).1) (by omega) HO hleg
     ⟨rfl, by simp, by simp, by simp, by simp⟩ (by omega) sg1 _ rfl
    obtain ⟨j, t1, t2, t3⟩ := tells p l2 i _ hi2 (by omega) HO.v hx2 hck (by rw [hok]) (dnS l2 l2.length) [] ⟨k, [], 0⟩ (fun y hy => by simp at hy) ((dnS_mem l2 l2.length i).2 ⟨by omega, by rw [hen]; exact he0⟩) (fun j hj => (hds j hj).1) (dnS_pw l2 l2.length)
    generalize runL 0 p l2 ⟨k, [], 0⟩ [] (dnS l2 l2.length) = R at hCk t1
    obtain ⟨wv, wj⟩ := R
    simp only at t1 hCk
    subst t1
    have hj1 : ¬ (j : Int) = -1 := by omega
    obtain ⟨d, hd⟩ : ∃ d, l2[j]? = some d := ⟨_, List.getElem?_eq_getElem t2⟩
    have hdg : l2[j] = d := by have := hd; rw [List.getElem?_eq_getElem t2] at this; exact Option.some.inj this
    have hig2 : l2[i]'(by omega) = { c with a := ⟨c.a.ok, itX, 36028797018963968⟩ } := by have := hi2; rw [List.getElem?_eq_getElem (by omega)] at this; exact Option.some.inj this
    have hi2l : i < l2.length := by omega
    have hle : d.e ≤ c.e := by rw [hen] at t3; simpa [enD, hd] using t3
    rw [if_neg hj1] at hCk
    simp [eVl] at hCk
    simp [eCll, itX] at hs2
    simp [hi1, hlg, eCll, hs2, hCk, t2, hdg, hig2, hi2l, hle]
def args_LaxTells : List (Bool × Ty) := [(false, .i .i64), (false, .i .i64), (false, .l 8 true tAct), (false, .i .i64)]
theorem args_LaxTells_ok : tyA Try.prog [3, 3, 106, 3] = some args_LaxTells := by kernel_rfl
theorem law_LaxTells (ds : List D) (h : FitA args_LaxTells ds) : ∃ sg lo, (lim EE).call n_c_law15_LaxTells ds [] 0 = some (.b true, sg, lo) := by
 cases h with
 | c h1 k =>
 obtain ⟨n1, rfl, w1⟩ := fits_i h1
 cases k with
 | c h2 k =>
 obtain ⟨n2, rfl, w2⟩ := fits_i h2
 cases k with
 | c h3 k =>
 cases h3 with
 | l sz agg e xs hl hx ha =>
 obtain ⟨is, rfl, hi⟩ := fits_acts xs hx (by simpa using ha)
 cases k with
 | c h4 k =>
 obtain ⟨n4, rfl, w4⟩ := fits_i h4
 cases k
 exact ⟨[], 0, laxTells n1 n2 is n4 hi⟩
end Go.AM
