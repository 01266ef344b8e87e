/- Lemmas: an abstract machine over the loaded program, proved sound against the model once; what the program's functions compute. -/
import Derived.Test.YtkkglhniofchnaaK4
import Derived.Test.YtkkglhniofchnaaK1
import Derived.Test.YtkkglhniofchnaaK3
import Derived.Test.YtkkglhniofchnaaK2
import Derived.Test.YtkkglhniofchnaaProg
set_option linter.all false
namespace Go.AM
def startS (sp hp : Option Nat) (n : Int) : Int := if n < 1 ∨ 8 < n then 4 else if sp.isSome || hp.isSome then 11 else 0
theorem c_scan_Start (rc ru : Nat) (sp hp : Option Nat) (t n : Int) (sg : List (List D)) (hru : sg[ru]? = some (eRun rc sp hp t)) :
    LL.call n_scan_Runner_Start [.p ru 0, .i .i64 n] sg sg.length =
     if startS sp hp n = 0 then some (.i .i64 0, sg.set ru (eRun rc (some sg.length) hp t) ++ [eScn ⟨n, n, [], -1, false, false⟩], ru) else some (.i .i64 (startS sp hp n), sg, sg.length) := by
 generalize hT : startS sp hp n = T
 unfold startS at hT
 have hlt := get_lt hru
 have hmin : min sg.length ru = ru := by omega
 have hnl : ¬ sg.length ≤ ru := by omega
 by_cases h1 : n < 1
 ·rw [if_pos (.inl h1)] at hT
  subst hT
  refine wp_call e_scan_Runner_Start rfl ?_
  simp [F_scan_Runner_Start, h1]
 ·by_cases h2 : 8 < n
  ·rw [if_pos (.inr h2)] at hT
   subst hT
   refine wp_call e_scan_Runner_Start rfl ?_
   simp [F_scan_Runner_Start, h1, h2]
  ·rw [if_neg (by omega)] at hT
   cases sp with
   | some s0 =>
    simp at hT
    subst hT
    simp [eRun, eFp] at hru
    refine wp_call e_scan_Runner_Start rfl ?_
    simp [F_scan_Runner_Start, h1, h2, hru]
   | none =>
    cases hp with
    | some s0 =>
     simp at hT
     subst hT
     simp [eRun, eFp] at hru
     refine wp_call e_scan_Runner_Start rfl ?_
     simp [F_scan_Runner_Start, h1, h2, hru]
    | none =>
     simp at hT
     subst hT
     have happ : ∀ z : List D, (sg ++ [z])[ru]? = some (eRun rc none none t) := fun z => by rw [List.getElem?_append_left hlt]; exact hru
     obtain ⟨_, hr2⟩ := List.getElem?_eq_some_iff.1 hru
     simp [eRun, eFp] at hru happ hr2
     refine wp_call e_scan_Runner_Start rfl ?_
     simp [F_scan_Runner_Start, h1, h2, hru, happ, hr2, eScn, eRun, eFp, hmin, hnl, hlt]
     done
theorem c_scan_Take_none (rc ru : Nat) (sp : Option Nat) (t : Int) (sg : List (List D)) (hru : sg[ru]? = some (eRun rc sp none t)) :
    ∃ K, LL.call n_scan_Runner_Take [.p ru 0] sg sg.length = some (.t [.a [.i .i64 0, .i .i64 0, .l K 4 [], .i .i64 0, .b false], .b false], sg, sg.length) := by
 simp [eRun, eFp] at hru
 refine ⟨.o, wp_call e_scan_Runner_Take rfl ?_⟩
 simp [F_scan_Runner_Take, hru]
theorem c_scan_Take (rc ru h : Nat) (sp : Option Nat) (t : Int) (s : Sht) (sg : List (List D)) (hru : sg[ru]? = some (eRun rc sp (some h) t)) (hh : sg[h]? = some (eSht s)) :
    LL.call n_scan_Runner_Take [.p ru 0] sg sg.length = some (.t [.a (eSht s), .b true], sg.set ru (eRun rc sp none t), sg.length) := by
 have hlt := get_lt hru
 have hg : ∀ l : List D, (sg.set ru l)[ru]? = some l := fun l => List.getElem?_set_self hlt
 simp [eRun, eFp] at hru
 simp [eSht] at hh
 refine wp_call e_scan_Runner_Take rfl ?_
 simp [F_scan_Runner_Take, hru, hh, eSht, eRun, eFp, hg]
 exact List.take_of_length_le (by simp)
def stepS (k : Int) (p : Nat) (M : Mem) (s : Scn) (busy : Int) : Scn × Nat :=
 if s.quiet = true ∧ 0 < busy then (s, 0)
 else if s.at_ < 0 then
  (if (cellsS k p (s.l ++ [⟨(cellsS k p s.l s.l.length).1, rdM M (cellsS k p s.l s.l.length).1⟩]) (s.l.length + 1)).2 then ({ s with l := s.l ++ [⟨(cellsS k p s.l s.l.length).1, rdM M (cellsS k p s.l s.l.length).1⟩] }, 0)
  else ({ s with l := s.l ++ [⟨(cellsS k p s.l s.l.length).1, rdM M (cellsS k p s.l s.l.length).1⟩], at_ := 0 }, if s.quiet then 1 else 0))
 else match s.l[s.at_.toNat]? with
  | none => (s, 0)
  | some x => if (rdM M x.at_).v = x.c.v then ({ s with at_ := s.at_ + 1 }, if s.at_ + 1 = s.l.length then 1 else 0) else (s, 2)
def two2 (k : Int) (l : List Sn) : Prop := k = 2 → 2 ≤ l.length → ∃ a b r, l = a :: b :: r ∧ 0 ≤ a.c.n ∧ a.c.n ≤ 1000000 ∧ 0 ≤ b.c.n ∧ b.c.n ≤ 1000000
section
variable (er rc ru q : Nat) (hp : Option Nat) (t : Int) (e : Eng) (M : Mem) (cs : List Cll) (at_ : List Nat) (s : Scn) (sg : List (List D)) (h6 : e.th.length = 6) (her : sg[er]? = some (eEng e)) (hrc : sg[rc]? = some (eRec er cs at_)) (hru : sg[ru]? = some (eRun rc (some q) hp t)) (hq : sg[q]? = some (eScn s))
 (hm : sg[e.m]? = some (eMem M)) (hM : M.good) (hd1 : q ≠ er) (hd2 : q ≠ rc) (hd3 : q ≠ ru) (hd4 : er ≠ ru) (hd5 : er ≠ rc) (hd6 : rc ≠ ru) (hd7 : q ≠ e.m) (hl : legal e.k e.p = 0)
include h6 her hrc hru hq hm hM hd1 hd2 hd3 hd4 hd5 hd6 hd7 hl
theorem c_scan_step_wait (busy : Int) (h : s.quiet = true ∧ 0 < busy) : LL.call n_scan_Runner_step [.p ru 0, .i .i64 busy] sg sg.length = some (.t [], sg, sg.length) := by
 have h1 := h.1
 have h2 := h.2
 simp [eRun, eFp] at hru
 simp [eScn, h1] at hq
 refine wp_call e_scan_Runner_step rfl ?_
 simp [F_scan_Runner_step, hru, hq, h2]
theorem c_scan_step_next (busy : Int) (h : ¬ (s.quiet = true ∧ 0 < busy)) (n : Nat) (ha : s.at_ = n) (x : Sn) (hx : s.l[n]? = some x) (hll : s.l.length ≤ 2000) (hv : (rdM M x.at_).v = x.c.v) (hn : n + 1 ≠ s.l.length) :
    LL.call n_scan_Runner_step [.p ru 0, .i .i64 busy] sg sg.length = some (.t [], sg.set q (eScn { s with at_ := n + 1 }), sg.length) := by
 have hlt := get_lt hq
 have hnl := (List.getElem?_eq_some_iff.1 hx).1
 have hxe := (List.getElem?_eq_some_iff.1 hx).2
 have Me := c_engine_Memory e sg er her
 have Rd := c_cell_Memory_Read M x.at_ sg e.m hm hM.ok
 have w1 : IntKind.i64.wrap ((n : Int) + 1) = n + 1 := wrap64 (by omega)
 have hneg : ¬ ((n : Int) < 0) := by omega
 have heq : ((n : Int) + 1 == s.l.length) = false := by rw [beq_eq_false_iff_ne]; omega
 have hxs : (s.l.map eSn)[n]? = some (eSn x) := by simp [hx]
 simp [eRun, eFp] at hru
 simp [eRec] at hrc
 simp [eScn, ha] at hq
 simp [eC] at Rd
 have hquiet : s.quiet = false ∨ (s.quiet = true ∧ ¬ 0 < busy) := by
  cases hc : s.quiet with
  | false => exact .inl rfl
  | true => exact .inr ⟨rfl, fun hb => h ⟨hc, hb⟩⟩
 have hg : ∀ l : List D, (sg.set q l)[q]? = some l := fun l => List.getElem?_set_self hlt
 rcases hquiet with hqt | ⟨hqt, hnb⟩
 ·simp [hqt] at hq
  refine wp_call e_scan_Runner_step rfl ?_
  simp [F_scan_Runner_step, hru, hrc, hq, hneg, Me, Rd, hx, hxe, hnl, eSn, hv, w1, heq, hg]
  simp [eScn, hqt]
  exact List.take_of_length_le (by simp)
 ·simp [hqt] at hq
  refine wp_call e_scan_Runner_step rfl ?_
  simp [F_scan_Runner_step, hru, hrc, hq, hnb, hneg, Me, Rd, hx, hxe, hnl, eSn, hv, w1, heq, hg]
  simp [eScn, hqt]
  exact List.take_of_length_le (by simp)
theorem c_scan_step_fail (busy : Int) (h : ¬ (s.quiet = true ∧ 0 < busy)) (n : Nat) (ha : s.at_ = n) (x : Sn) (hx : s.l[n]? = some x) (hll : s.l.length ≤ 2000) (hv : (rdM M x.at_).v ≠ x.c.v) (hleft : 1 ≤ s.left ∧ s.left ≤ 1000) :
    LL.call n_scan_Runner_step [.p ru 0, .i .i64 busy] sg sg.length = some (.t [], if s.left = 1 then (sg.set q (eScn (failS s e.cl))).set er (eEng { e with cl := true }) else sg.set q (eScn (failS s e.cl)), sg.length) := by
 have F := c_scan_failed er rc ru q hp t e cs at_ s sg h6 her hrc hru hq hd1 hd2 hd3 hd4 hd5 hleft
 have hls : (if s.left = 1 then (sg.set q (eScn (failS s e.cl))).set er (eEng { e with cl := true }) else sg.set q (eScn (failS s e.cl))).length = sg.length := by split <;> simp
 generalize (if s.left = 1 then (sg.set q (eScn (failS s e.cl))).set er (eEng { e with cl := true }) else sg.set q (eScn (failS s e.cl))) = s2 at *
 have hlt := get_lt hq
 have hnl := (List.getElem?_eq_some_iff.1 hx).1
 have hxe := (List.getElem?_eq_some_iff.1 hx).2
 have Me := c_engine_Memory e sg er her
 have Rd := c_cell_Memory_Read M x.at_ sg e.m hm hM.ok
 have hneg : ¬ ((n : Int) < 0) := by omega
 have hv' : (((rdM M x.at_).v : Int) != (x.c.v : Int)) = true := by rw [bne_iff_ne]; omega
 simp [eRun, eFp] at hru
 simp [eRec] at hrc
 simp [eScn, ha] at hq
 simp [eC] at Rd
 have hquiet : s.quiet = false ∨ (s.quiet = true ∧ ¬ 0 < busy) := by
  cases hc : s.quiet with
  | false => exact .inl rfl
  | true => exact .inr ⟨rfl, fun hb => h ⟨hc, hb⟩⟩
 rcases hquiet with hqt | ⟨hqt, hnb⟩
 ·simp [hqt] at hq
  refine wp_call e_scan_Runner_step rfl ?_
  simp [F_scan_Runner_step, hru, hrc, hq, hneg, Me, Rd, hx, hxe, hnl, eSn, hv, hv', F]
  exact List.take_of_length_le (by omega)
 ·simp [hqt] at hq
  refine wp_call e_scan_Runner_step rfl ?_
  simp [F_scan_Runner_step, hru, hrc, hq, hnb, hneg, Me, Rd, hx, hxe, hnl, eSn, hv, hv', F]
  exact List.take_of_length_le (by omega)
theorem c_scan_step_last (busy : Int) (h : ¬ (s.quiet = true ∧ 0 < busy)) (n : Nat) (ha : s.at_ = n) (x : Sn) (hx : s.l[n]? = some x) (hll : s.l.length ≤ 2000) (hv : (rdM M x.at_).v = x.c.v) (hn : n + 1 = s.l.length) (htr : 0 ≤ s.tries ∧ s.tries ≤ 1000) (hleft : 0 ≤ s.left ∧ s.left ≤ 1000) :
    ∃ sg', LL.call n_scan_Runner_step [.p ru 0, .i .i64 busy] sg sg.length = some (.t [], sg', ru) ∧ sg'.length = sg.length + 1 ∧ sg'[ru]? = some (eRun rc none (some sg.length) t) ∧
     sg'[sg.length]? = some (eSht ⟨e.k, e.p, s.l, if s.quiet then s.tries else s.tries - s.left + 1, s.quiet⟩) ∧
     sg'[er]? = some (eEng { e with cl := if s.quiet && !s.closed then false else e.cl }) ∧ (∀ x, x < sg.length → x ≠ ru → x ≠ er → x ≠ q → sg'[x]? = sg[x]?) := by
 have hlt := get_lt hq
 obtain ⟨s1, hs1⟩ : ∃ s1, s1 = sg.set q (eScn { s with at_ := n + 1 }) := ⟨_, rfl⟩
 have hl1 : s1.length = sg.length := by rw [hs1]; simp
 have g1 : s1[ru]? = some (eRun rc (some q) hp t) := by rw [hs1, List.getElem?_set_ne hd3]; exact hru
 have g2 : s1[rc]? = some (eRec er cs at_) := by rw [hs1, List.getElem?_set_ne hd2]; exact hrc
 have g3 : s1[er]? = some (eEng e) := by rw [hs1, List.getElem?_set_ne hd1]; exact her
 have g5 : s1[q]? = some (eScn { s with at_ := n + 1 }) := by rw [hs1, List.getElem?_set_self hlt]
 obtain ⟨sg', Dn, d1, d2, d3, d4, d5⟩ := c_scan_done er rc ru q hp t e cs at_ { s with at_ := n + 1 } s1 h6 g3 g2 g1 g5 hd1 hd2 hd3 hd4 hd5 hd6 htr hleft
 rw [hl1] at Dn d1 d2 d3 d5
 refine ⟨sg', ?_, d1, d2, d3, d4, fun y h1 h2 h3 h4 => by rw [d5 y h1 h2 h3, hs1, List.getElem?_set_ne (Ne.symm h4)]⟩
 have hnl := (List.getElem?_eq_some_iff.1 hx).1
 have hxe := (List.getElem?_eq_some_iff.1 hx).2
 have hlu := get_lt hru
 have Me := c_engine_Memory e sg er her
 have Rd := c_cell_Memory_Read M x.at_ sg e.m hm hM.ok
 have w1 : IntKind.i64.wrap ((n : Int) + 1) = n + 1 := wrap64 (by omega)
 have hneg : ¬ ((n : Int) < 0) := by omega
 have heq : (n : Int) + 1 = s.l.length := by omega
 have w2 : IntKind.i64.wrap (s.l.length : Int) = s.l.length := wrap64 (by omega)
 have hg : ∀ l : List D, (sg.set q l)[q]? = some l := fun l => List.getElem?_set_self hlt
 have hmin : min sg.length ru = ru := by omega
 have hnle : ¬ sg.length ≤ ru := by omega
 simp [eRun, eFp] at hru
 simp [eRec] at hrc
 simp [eScn, ha] at hq
 simp [eScn, heq] at g5 hs1
 simp [eC] at Rd
 have hquiet : s.quiet = false ∨ (s.quiet = true ∧ ¬ 0 < busy) := by
  cases hc : s.quiet with
  | false => exact .inl rfl
  | true => exact .inr ⟨rfl, fun hb => h ⟨hc, hb⟩⟩
 rcases hquiet with hqt | ⟨hqt, hnb⟩
 ·simp [hqt] at hq hs1 g5
  refine wp_call e_scan_Runner_step rfl ?_
  simp [F_scan_Runner_step, hru, hrc, hq, hneg, Me, Rd, hx, hxe, hnl, eSn, hv, w1, w2, heq, hg, ← hs1, g5, Dn, hl1, hmin, hnle]
  done
 ·simp [hqt] at hq hs1 g5
  refine wp_call e_scan_Runner_step rfl ?_
  simp [F_scan_Runner_step, hru, hrc, hq, hnb, hneg, Me, Rd, hx, hxe, hnl, eSn, hv, w1, w2, heq, hg, ← hs1, g5, Dn, hl1, hmin, hnle]
  done
end
end Go.AM

namespace Go.AM
theorem callrv_set (OO : Or) (f : FuncId) (ds : List D) (r : Nat) (sg : List (List D)) (l : List D) : callrv OO f ds r (sg.set r l) = callrv OO f ds r sg := by
 unfold callrv; rw [List.set_set]
section
variable (er rc : Nat) (e : Eng) (M : Mem) (fs : List (Option FrR)) (cs : List Cll) (at_ : List Nat) (sg : List (List D)) (hR : Rep sg er e M fs) (hrc : sg[rc]? = some (eRec er cs at_)) (nr : ¬ own er e rc) (h6 : at_.length = 6) (hcs : cs.length ≤ 1000)
include hR hrc nr h6 hcs
set_option maxHeartbeats 2000000 in
theorem c_history_Begin (t : Int) (o : Rw) (hb : begO e.k e.cl fs t o = 0) :
    ∃ sg' e', LL.call n_history_Recorder_Begin [.p rc 0, .i .i64 t, eOp o] sg sg.length = some (.i .i64 0, sg', er) ∧ sg'.length = sg.length + 1 ∧ 0 ≤ t ∧ t < 6 ∧
     Rep sg' er e' M (fs.set t.toNat (some (begF o))) ∧ sg'[rc]? = some (eRec er (cs ++ [⟨t.toNat, o, e.st, -1, noA⟩]) (at_.set t.toNat (cs.length + 1))) ∧ e'.k = e.k ∧ e'.p = e.p ∧ e'.m = e.m ∧ e'.cl = e.cl ∧ e'.st = e.st ∧
     (∀ x, x < sg.length → x ≠ er → x ≠ rc → sg'[x]? = sg[x]?) ∧ (∀ (i q : Nat), e'.th[i]? = some (some q) → e.th[i]? = some (some q) ∨ q = sg.length) := by
 obtain ⟨sg1, e', A1, A2, A3, A4, A5, A6, A7, A8, A9, A10⟩ := rep_begin hR t o hb
 have hrl := get_lt hrc
 have hre : rc ≠ er := fun e => nr (.inl e)
 have hel : er < sg.length := hR.lt (.inl rfl)
 have h1 : sg1[rc]? = some (eRec er cs at_) := by rw [A9 rc hrl hre]; exact hrc
 have St : callrv LL n_engine_Engine_Steps [.p er 0] rc sg1 = some (.i .i64 e.st) := by
  have := c_engine_Steps e' (sg1.set rc []) er (by rw [List.getElem?_set_ne hre]; exact A3.hr) A3.h6
  rw [A8] at this
  exact callrv_of this
 have ht : 0 ≤ t ∧ t < 6 := by
  unfold begO at hb
  split at hb
  ·cases hb
  ·omega
 obtain ⟨n, hn⟩ : ∃ n : Nat, t = n := ⟨t.toNat, by omega⟩
 subst hn
 have w1 : IntKind.i64.wrap ((cs.length : Int) + 1) = ((cs.length + 1 : Nat) : Int) := wrap64 (by omega)
 have hap : (cs.length + 1) * 96 ≤ 140737488355328 := by omega
 have hn6 : n < at_.length := by omega
 have hn6' : (n : Int) < 6 := ht.2
 obtain ⟨sg', hsg'⟩ : ∃ s, s = sg1.set rc (eRec er (cs ++ [⟨n, o, e.st, -1, noA⟩]) (at_.set n (cs.length + 1))) := ⟨_, rfl⟩
 have nr' : ¬ own er e' rc := by
  rintro (h | h | ⟨j, h⟩)
  ·exact nr (.inl h)
  ·rw [A6] at h; exact nr (.inr (.inl h))
  ·rcases A10 j rc h with h | h
   ·exact nr (.inr (.inr ⟨j, h⟩))
   ·omega
 refine ⟨sg', e', ?_, by rw [hsg']; simp [A2], ht.1, ht.2, ?_, by rw [hsg']; simp; exact List.getElem?_set_self (by omega), A4, A5, A6, A7, A8, fun x hx1 hx2 hx3 => ?_, A10⟩
 ·obtain ⟨a0, a1, a2, a3, a4, a5, rfl⟩ := six h6
  have hmin : min sg.length er = er := by omega
  have hnl : ¬ sg.length ≤ er := by omega
  have hc : n = 0 ∨ n = 1 ∨ n = 2 ∨ n = 3 ∨ n = 4 ∨ n = 5 := by omega
  have hg : ∀ l : List D, (sg1.set rc l)[rc]? = some l := fun l => List.getElem?_set_self (by omega)
  simp [eRec] at hrc h1 hsg'
  rcases hc with rfl | rfl | rfl | rfl | rfl | rfl
  all_goals
   refine wp_call e_history_Recorder_Begin rfl ?_
   simp [eOp] at A1
   simp [eCll, noA, eN] at hsg'
   simp [eN] at h1
   simp [F_history_Recorder_Begin, eOp, hrc, A1, h1, St, callrv_set, w1, hap, A2, hmin, hnl, eN, hg, hsg', eCll, noA]
   done
 ·rw [hsg']
  exact A3.keep (fun y hy => List.getElem?_set_ne (fun e => nr' (by rw [e]; exact hy)))
 ·rw [hsg', List.getElem?_set_ne (Ne.symm hx3)]; exact A9 x hx1 hx2
set_option maxHeartbeats 4000000 in
set_option maxRecDepth 8000 in
theorem c_history_Pick (s : Nat) (hs : s ≤ 5000) (hl : legal e.k e.p = 0) (hst : e.st < 1000000000) (hM : MI e.k s M) (hF : ∀ (i : Nat) f, fs[i]? = some (some f) → FI e.k s f) (hat : ∀ x ∈ at_, x ≤ cs.length)
    (pick : Int) (k : Nat) (hk : pickL (busyO fs 0) pick = some k) (f : FrR) (hf : fs[k]? = some (some f)) :
    ∃ sg' e', LL.call n_history_Recorder_Pick [.p rc 0, .i .i64 pick] sg sg.length = some (.t [eEv k f.o (stepP e.k e.p M f).a (stepP e.k e.p M f).d, .b true], sg', sg.length) ∧ sg'.length = sg.length ∧
     Rep sg' er e' (stepP e.k e.p M f).m (fs.set k (if (stepP e.k e.p M f).d then none else some (stepP e.k e.p M f).f)) ∧
     sg'[rc]? = some (eRec er (recC cs at_ k (stepP e.k e.p M f).d e.st (stepP e.k e.p M f).a).1 (recC cs at_ k (stepP e.k e.p M f).d e.st (stepP e.k e.p M f).a).2) ∧ e'.k = e.k ∧ e'.p = e.p ∧ e'.m = e.m ∧ e'.cl = e.cl ∧ e'.st = e.st + 1 ∧
     (∀ x, ¬ own er e x → x ≠ rc → sg'[x]? = sg[x]?) ∧ (∀ (i q : Nat), e'.th[i]? = some (some q) → e.th[i]? = some (some q)) := by
 obtain ⟨sg1, e', A1, A2, A3, A4, A5, A6, A7, A8, A9, A10⟩ := rep_pick hR s hs hl hst hM hF pick k hk f hf
 generalize stepP e.k e.p M f = so at *
 have h1 : sg1[rc]? = some (eRec er cs at_) := by rw [A9 rc nr]; exact hrc
 have hre : rc ≠ er := fun e => nr (.inl e)
 have St : callrv LL n_engine_Engine_Steps [.p er 0] rc sg1 = some (.i .i64 ((e.st + 1 : Nat) : Int)) := by
  have := c_engine_Steps e' (sg1.set rc []) er (by rw [List.getElem?_set_ne hre]; exact A3.hr) A3.h6
  rw [A8] at this
  exact callrv_of this
 have hk6 : k < 6 := by have := (List.getElem?_eq_some_iff.1 hf).1; have := hR.f6; omega
 obtain ⟨ak, hak⟩ : ∃ ak, at_[k]? = some ak := ⟨at_[k], List.getElem?_eq_getElem (by omega)⟩
 have hak2 := hat ak (List.mem_of_getElem? hak)
 have nr' : ¬ own er e' rc := by
  rintro (h | h | ⟨j, h⟩)
  ·exact nr (.inl h)
  ·rw [A6] at h; exact nr (.inr (.inl h))
  ·exact nr (.inr (.inr ⟨j, A10 j rc h⟩))
 have hrl1 := get_lt h1
 have hrl := get_lt hrc
 by_cases hw : so.d = true ∧ 0 < ak
 ·obtain ⟨c, hc⟩ : ∃ c, cs[ak - 1]? = some c := ⟨cs[ak - 1], List.getElem?_eq_getElem (by omega)⟩
  have er1 : recC cs at_ k so.d e.st so.a = (cs.set (ak - 1) { c with e := e.st, a := so.a }, at_.set k 0) := by
   unfold recC; rw [hak]; simp only; rw [if_pos hw, hc]
  rw [er1]
  have hcl : ak - 1 < cs.length := by omega
  have hcg : cs[ak - 1] = c := by rw [List.getElem?_eq_getElem hcl] at hc; exact Option.some.inj hc
  obtain ⟨sg', hsg'⟩ : ∃ s, s = sg1.set rc (eRec er (cs.set (ak - 1) { c with e := e.st, a := so.a }) (at_.set k 0)) := ⟨_, rfl⟩
  refine ⟨sg', e', ?_, by rw [hsg']; simp [A2], ?_, by rw [hsg']; exact List.getElem?_set_self (by omega), A4, A5, A6, A7, A8, fun x hx1 hx2 => ?_, A10⟩
  ·have w1 : IntKind.i64.wrap ((ak : Int) - 1) = ((ak - 1 : Nat) : Int) := by rw [wrap64 (by omega)]; omega
   have w2 : IntKind.i64.wrap (((e.st + 1 : Nat) : Int) - 1) = e.st := by rw [wrap64 (by omega)]; omega
   have w2' : IntKind.i64.wrap (((e.st : Int) + 1) - 1) = e.st := by rw [wrap64 (by omega)]; omega
   have w3 : IntKind.i64.wrap (e.st : Int) = e.st := wrap64 (by omega)
   have hd := hw.1
   have hpos : (0 : Int) < ak := by omega
   have hpos0 := hw.2
   have hg1 : ∀ l : List D, (sg1.set rc l)[rc]? = some l := fun l => List.getElem?_set_self hrl1
   obtain ⟨a0, a1, a2, a3, a4, a5, rfl⟩ := six h6
   have hc6 : k = 0 ∨ k = 1 ∨ k = 2 ∨ k = 3 ∨ k = 4 ∨ k = 5 := by omega
   rw [hd] at A1 ⊢
   simp [eRec, eCll, eN] at hrc h1 hsg'
   rcases hc6 with rfl | rfl | rfl | rfl | rfl | rfl
   all_goals
    simp at hak
    subst hak
    refine wp_call e_history_Recorder_Pick rfl ?_
    simp [eEv] at A1
    simp [eN] at hsg'
    simp [F_history_Recorder_Pick, hrc, A1, h1, hg1, St, callrv_set, w1, w2, w2', w3, A2, eN, hpos, hpos0, hcl, hcg, hc, eCll, hsg', eEv]
    exact List.take_of_length_le (by simp [A2])
  ·rw [hsg']
   exact A3.keep (fun y hy => List.getElem?_set_ne (fun e => nr' (by rw [e]; exact hy)))
  ·rw [hsg', List.getElem?_set_ne (Ne.symm hx2)]; exact A9 x hx1
 ·have er1 : recC cs at_ k so.d e.st so.a = (cs, at_) := by
   unfold recC; rw [hak]; simp only; rw [if_neg hw]
  rw [er1]
  refine ⟨sg1, e', ?_, A2, A3, h1, A4, A5, A6, A7, A8, fun x hx1 hx2 => A9 x hx1, A10⟩
  obtain ⟨a0, a1, a2, a3, a4, a5, rfl⟩ := six h6
  have hc6 : k = 0 ∨ k = 1 ∨ k = 2 ∨ k = 3 ∨ k = 4 ∨ k = 5 := by omega
  have hw' : so.d = false ∨ (so.d = true ∧ ¬ (0 : Int) < ak) := by
   cases hd : so.d with
   | false => exact .inl rfl
   | true => exact .inr ⟨rfl, fun h => hw ⟨hd, by omega⟩⟩
  have htk : List.take sg.length sg1 = sg1 := List.take_of_length_le (by omega)
  simp [eRec, eN] at hrc h1
  rcases hc6 with rfl | rfl | rfl | rfl | rfl | rfl
  all_goals
   simp at hak
   subst hak
   refine wp_call e_history_Recorder_Pick rfl ?_
   simp [eEv] at A1
   rcases hw' with hd | ⟨hd, hpos⟩
   ·simp [hd] at A1
    simp [F_history_Recorder_Pick, hrc, A1, h1, A2, eN, eEv, hd, htk]
    done
   ·simp [hd] at A1
    have hpos' : ¬ 0 < _ := fun h => hpos (Int.ofNat_lt.2 h)
    simp [F_history_Recorder_Pick, hrc, A1, h1, A2, eN, hpos, hpos', eEv, hd, htk]
    done
end
section
variable (er rc ru q : Nat) (hp : Option Nat) (t : Int) (e : Eng) (M : Mem) (cs : List Cll) (at_ : List Nat) (s : Scn) (sg : List (List D)) (h6 : e.th.length = 6) (her : sg[er]? = some (eEng e)) (hrc : sg[rc]? = some (eRec er cs at_)) (hru : sg[ru]? = some (eRun rc (some q) hp t)) (hq : sg[q]? = some (eScn s))
 (hm : sg[e.m]? = some (eMem M)) (hM : M.good) (hd1 : q ≠ er) (hd2 : q ≠ rc) (hd3 : q ≠ ru) (hd4 : er ≠ ru) (hd5 : er ≠ rc) (hd6 : rc ≠ ru) (hd7 : q ≠ e.m) (hl : legal e.k e.p = 0)
include h6 her hrc hru hq hm hM hd1 hd2 hd3 hd4 hd5 hd6 hd7 hl
set_option maxHeartbeats 4000000 in
theorem c_scan_step_read (busy : Int) (h : ¬ (s.quiet = true ∧ 0 < busy)) (ha : s.at_ < 0) (hll : s.l.length ≤ 2000) (htw : two2 e.k s.l) (s' : Scn) (hs' : s' = (stepS e.k e.p M s busy).1) (htw' : two2 e.k s'.l) (h0 : (stepS e.k e.p M s busy).2 = 0) :
    LL.call n_scan_Runner_step [.p ru 0, .i .i64 busy] sg sg.length = some (.t [], sg.set q (eScn s'), sg.length) := by
 have hlt := get_lt hq
 have C1 := c_scan_cells er rc ru q hp t e cs at_ s sg her hrc hru hq hl s.l.length (by omega) (fun hk hi => htw hk hi)
 obtain ⟨i1, hi1⟩ : ∃ i1, i1 = (cellsS e.k e.p s.l s.l.length).1 := ⟨_, rfl⟩
 obtain ⟨b1, hb1⟩ : ∃ b1, b1 = (cellsS e.k e.p s.l s.l.length).2 := ⟨_, rfl⟩
 rw [← hi1, ← hb1] at C1
 obtain ⟨l', hl'⟩ : ∃ l', l' = s.l ++ [⟨i1, rdM M i1⟩] := ⟨_, rfl⟩
 have hl'' : l'.length = s.l.length + 1 := by rw [hl']; simp
 unfold stepS at hs' h0
 rw [if_neg h, if_pos ha, ← hi1, ← hl', ← hl''] at hs' h0
 obtain ⟨s1, hs1⟩ : ∃ s1, s1 = sg.set q [.i .i64 s.tries, .i .i64 s.left, .w, .i .i64 s.at_, .b s.quiet, .b s.closed] := ⟨_, rfl⟩
 have hl1 : s1.length = sg.length := by rw [hs1]; simp
 have g1 : s1[ru]? = some (eRun rc (some q) hp t) := by rw [hs1, List.getElem?_set_ne hd3]; exact hru
 have g2 : s1[rc]? = some (eRec er cs at_) := by rw [hs1, List.getElem?_set_ne hd2]; exact hrc
 have g3 : s1[er]? = some (eEng e) := by rw [hs1, List.getElem?_set_ne hd1]; exact her
 have g4 : s1[e.m]? = some (eMem M) := by rw [hs1, List.getElem?_set_ne hd7]; exact hm
 have g5 : s1[q]? = some [.i .i64 s.tries, .i .i64 s.left, .w, .i .i64 s.at_, .b s.quiet, .b s.closed] := by rw [hs1, List.getElem?_set_self hlt]
 have Me : callrv LL n_engine_Engine_Memory [.p er 0] q s1 = some (.p e.m 0) := callrv_of (c_engine_Memory e (s1.set q []) er (by rw [List.getElem?_set_ne hd1]; exact g3))
 have Rd : callrv LL n_cell_Memory_Read [.p e.m 0, .i .i64 i1] q s1 = some (eC (rdM M i1)) := callrv_of (c_cell_Memory_Read M i1 (s1.set q []) e.m (by rw [List.getElem?_set_ne hd7]; exact g4) (fun c hc => hM.ok c hc))
 have ss : ∀ x, s1.set q x = sg.set q x := fun x => by rw [hs1, List.set_set]
 obtain ⟨s2, hs2⟩ : ∃ s2, s2 = sg.set q (eScn { s with l := l' }) := ⟨_, rfl⟩
 have hl2 : s2.length = sg.length := by rw [hs2]; simp
 have k1 : s2[ru]? = some (eRun rc (some q) hp t) := by rw [hs2, List.getElem?_set_ne hd3]; exact hru
 have k2 : s2[rc]? = some (eRec er cs at_) := by rw [hs2, List.getElem?_set_ne hd2]; exact hrc
 have k3 : s2[er]? = some (eEng e) := by rw [hs2, List.getElem?_set_ne hd1]; exact her
 have k5 : s2[q]? = some (eScn { s with l := l' }) := by rw [hs2, List.getElem?_set_self hlt]
 have htl : two2 e.k l' := by
  split at hs'
  ·rw [hs'] at htw'; exact htw'
  ·rw [hs'] at htw'; exact htw'
 have C2 := c_scan_cells er rc ru q hp t e cs at_ { s with l := l' } s2 k3 k2 k1 k5 hl l'.length (by omega) (fun hk hi => htl hk hi)
 simp only at C2
 generalize hcs : cellsS e.k e.p l' l'.length = c2 at *
 obtain ⟨i2, b2⟩ := c2
 rw [hl'', hl2] at C2
 push_cast at C2
 have hap : (s.l.length + 1) * 48 ≤ 140737488355328 := by omega
 have ss2 : ∀ x, s2.set q x = sg.set q x := fun x => by rw [hs2, List.set_set]
 have hfz : D.fzs ((rdM M i1).l.map eI) = (rdM M i1).l.map eI := fzs_flat eI _
 have hfl : D.fzs (s.l.map eSn) = s.l.map eSn := fzs_flat eSn _
 have hg : ∀ l : List D, (sg.set q l)[q]? = some l := fun l => List.getElem?_set_self hlt
 simp [eRun, eFp] at hru g1 k1
 simp [eRec] at hrc g2 k2
 simp [eScn] at hq k5 hs2
 rw [hl'] at hs2 k5
 simp [eSn] at hs2 k5
 simp [eC] at Rd
 have hquiet : s.quiet = false ∨ (s.quiet = true ∧ ¬ 0 < busy) := by
  cases hc : s.quiet with
  | false => exact .inl rfl
  | true => exact .inr ⟨rfl, fun hb => h ⟨hc, hb⟩⟩
 cases b2 with
 | true =>
  simp at hs'
  subst hs'
  rcases hquiet with hqt | ⟨hqt, hnb⟩
  ·refine wp_call e_scan_Runner_step rfl ?_
   simp [hqt] at hq hs1 g5 hs2 k5
   simp [F_scan_Runner_step, hru, hq, ha, C1, callrv_set, ← hs1, hl1, g1, g2, g5, Me, Rd, hap, ss, ← hs2, k1, k5, C2, hl2, hfz, hfl, hg]
   simp [hs2, eScn, hqt, hl', eSn]
   exact List.take_of_length_le (by simp)
  ·refine wp_call e_scan_Runner_step rfl ?_
   simp [hqt] at hq hs1 g5 hs2 k5
   simp [F_scan_Runner_step, hru, hq, hnb, ha, C1, callrv_set, ← hs1, hl1, g1, g2, g5, Me, Rd, hap, ss, ← hs2, k1, k5, C2, hl2, hfz, hfl, hg]
   simp [hs2, eScn, hqt, hl', eSn]
   exact List.take_of_length_le (by simp)
 | false =>
  simp at hs' h0
  subst hs'
  refine wp_call e_scan_Runner_step rfl ?_
  have hqt : s.quiet = false := by simpa using h0
  simp [hqt] at hq hs1 g5 hs2 k5
  simp [F_scan_Runner_step, hru, hq, ha, C1, callrv_set, ← hs1, hl1, g1, g2, g5, Me, Rd, hap, ss, ← hs2, k1, k5, C2, hl2, hfz, hfl, hg, ss2]
  simp [hs2, eScn, hqt, hl', eSn]
  exact List.take_of_length_le (by simp)
set_option maxHeartbeats 4000000 in
theorem c_scan_step_readdone (busy : Int) (h : ¬ (s.quiet = true ∧ 0 < busy)) (ha : s.at_ < 0) (hll : s.l.length ≤ 2000) (htw : two2 e.k s.l) (l' : List Sn) (hl' : l' = s.l ++ [⟨(cellsS e.k e.p s.l s.l.length).1, rdM M (cellsS e.k e.p s.l s.l.length).1⟩]) (htl : two2 e.k l') (hqt : s.quiet = true) (hmore : (cellsS e.k e.p l' l'.length).2 = false) (htr : 0 ≤ s.tries ∧ s.tries ≤ 1000) (hleft : 0 ≤ s.left ∧ s.left ≤ 1000) :
    ∃ sg', LL.call n_scan_Runner_step [.p ru 0, .i .i64 busy] sg sg.length = some (.t [], sg', ru) ∧ sg'.length = sg.length + 1 ∧ sg'[ru]? = some (eRun rc none (some sg.length) t) ∧
     sg'[sg.length]? = some (eSht ⟨e.k, e.p, l', s.tries, true⟩) ∧
     sg'[er]? = some (eEng { e with cl := if !s.closed then false else e.cl }) ∧ (∀ x, x < sg.length → x ≠ ru → x ≠ er → x ≠ q → sg'[x]? = sg[x]?) := by
 have hlt := get_lt hq
 have C1 := c_scan_cells er rc ru q hp t e cs at_ s sg her hrc hru hq hl s.l.length (by omega) (fun hk hi => htw hk hi)
 obtain ⟨i1, hi1⟩ : ∃ i1, i1 = (cellsS e.k e.p s.l s.l.length).1 := ⟨_, rfl⟩
 obtain ⟨b1, hb1⟩ : ∃ b1, b1 = (cellsS e.k e.p s.l s.l.length).2 := ⟨_, rfl⟩
 rw [← hi1, ← hb1] at C1
 rw [← hi1] at hl'
 have hl'' : l'.length = s.l.length + 1 := by rw [hl']; simp
 obtain ⟨s1, hs1⟩ : ∃ s1, s1 = sg.set q [.i .i64 s.tries, .i .i64 s.left, .w, .i .i64 s.at_, .b s.quiet, .b s.closed] := ⟨_, rfl⟩
 have hl1 : s1.length = sg.length := by rw [hs1]; simp
 have g1 : s1[ru]? = some (eRun rc (some q) hp t) := by rw [hs1, List.getElem?_set_ne hd3]; exact hru
 have g2 : s1[rc]? = some (eRec er cs at_) := by rw [hs1, List.getElem?_set_ne hd2]; exact hrc
 have g3 : s1[er]? = some (eEng e) := by rw [hs1, List.getElem?_set_ne hd1]; exact her
 have g4 : s1[e.m]? = some (eMem M) := by rw [hs1, List.getElem?_set_ne hd7]; exact hm
 have g5 : s1[q]? = some [.i .i64 s.tries, .i .i64 s.left, .w, .i .i64 s.at_, .b s.quiet, .b s.closed] := by rw [hs1, List.getElem?_set_self hlt]
 have Me : callrv LL n_engine_Engine_Memory [.p er 0] q s1 = some (.p e.m 0) := callrv_of (c_engine_Memory e (s1.set q []) er (by rw [List.getElem?_set_ne hd1]; exact g3))
 have Rd : callrv LL n_cell_Memory_Read [.p e.m 0, .i .i64 i1] q s1 = some (eC (rdM M i1)) := callrv_of (c_cell_Memory_Read M i1 (s1.set q []) e.m (by rw [List.getElem?_set_ne hd7]; exact g4) (fun c hc => hM.ok c hc))
 have ss : ∀ x, s1.set q x = sg.set q x := fun x => by rw [hs1, List.set_set]
 obtain ⟨s2, hs2⟩ : ∃ s2, s2 = sg.set q (eScn { s with l := l' }) := ⟨_, rfl⟩
 have hl2 : s2.length = sg.length := by rw [hs2]; simp
 have k1 : s2[ru]? = some (eRun rc (some q) hp t) := by rw [hs2, List.getElem?_set_ne hd3]; exact hru
 have k2 : s2[rc]? = some (eRec er cs at_) := by rw [hs2, List.getElem?_set_ne hd2]; exact hrc
 have k3 : s2[er]? = some (eEng e) := by rw [hs2, List.getElem?_set_ne hd1]; exact her
 have k5 : s2[q]? = some (eScn { s with l := l' }) := by rw [hs2, List.getElem?_set_self hlt]
 have C2 := c_scan_cells er rc ru q hp t e cs at_ { s with l := l' } s2 k3 k2 k1 k5 hl l'.length (by omega) (fun hk hi => htl hk hi)
 simp only at C2
 generalize hcs : cellsS e.k e.p l' l'.length = c2 at *
 obtain ⟨i2, b2⟩ := c2
 rw [hl'', hl2] at C2
 push_cast at C2
 have hap : (s.l.length + 1) * 48 ≤ 140737488355328 := by omega
 have hb2 : b2 = false := hmore
 subst hb2
 have ss2 : ∀ x, s2.set q x = sg.set q x := fun x => by rw [hs2, List.set_set]
 obtain ⟨s3, hs3⟩ : ∃ s3, s3 = sg.set q (eScn { s with l := l', at_ := 0 }) := ⟨_, rfl⟩
 have hl3 : s3.length = sg.length := by rw [hs3]; simp
 have m1 : s3[ru]? = some (eRun rc (some q) hp t) := by rw [hs3, List.getElem?_set_ne hd3]; exact hru
 have m2 : s3[rc]? = some (eRec er cs at_) := by rw [hs3, List.getElem?_set_ne hd2]; exact hrc
 have m3 : s3[er]? = some (eEng e) := by rw [hs3, List.getElem?_set_ne hd1]; exact her
 have m5 : s3[q]? = some (eScn { s with l := l', at_ := 0 }) := by rw [hs3, List.getElem?_set_self hlt]
 obtain ⟨sg', Dn, d1, d2, d3, d4, d5⟩ := c_scan_done er rc ru q hp t e cs at_ { s with l := l', at_ := 0 } s3 h6 m3 m2 m1 m5 hd1 hd2 hd3 hd4 hd5 hd6 htr hleft
 rw [hl3] at Dn d1 d2 d3 d5
 simp only [hqt, if_true, Bool.true_and] at d3 d4
 refine ⟨sg', ?_, d1, d2, d3, d4, fun y h1 h2 h3 h4 => by rw [d5 y h1 h2 h3, hs3, List.getElem?_set_ne (Ne.symm h4)]⟩
 have hlu := get_lt hru
 have hmin : min sg.length ru = ru := by omega
 have hnle : ¬ sg.length ≤ ru := by omega
 have hfz : D.fzs ((rdM M i1).l.map eI) = (rdM M i1).l.map eI := fzs_flat eI _
 have hfl : D.fzs (s.l.map eSn) = s.l.map eSn := fzs_flat eSn _
 have hg : ∀ l : List D, (sg.set q l)[q]? = some l := fun l => List.getElem?_set_self hlt
 simp [eRun, eFp] at hru g1 k1
 simp [eRec] at hrc g2 k2
 simp [eScn] at hq k5 hs2 hs3 m5
 rw [hl'] at hs2 k5 hs3 m5
 simp [eSn] at hs2 k5 hs3 m5
 simp [eC] at Rd
 have hnb : ¬ 0 < busy := fun hb => h ⟨hqt, hb⟩
 refine wp_call e_scan_Runner_step rfl ?_
 simp [hqt] at hq hs1 g5 hs2 k5 hs3 m5
 simp [F_scan_Runner_step, hru, hq, hnb, ha, C1, callrv_set, ← hs1, hl1, g1, g2, g5, Me, Rd, hap, ss, ← hs2, k1, k5, C2, hl2, hfz, hfl, hg, ss2, ← hs3, m1, m5, hl3, Dn, hmin, hnle]
 done
end
end Go.AM

namespace Go.AM
structure RnS where
 k : Int
 p : Nat
 M : Mem
 fs : List (Option FrR)
 cl : Bool
 st : Nat
 cs : List Cll
 ats : List Nat
 sc : Option Scn
 sh : Option Sht
 tk : Nat
structure ScI (k : Int) (p : Nat) (s : Scn) : Prop where
 tr : 1 ≤ s.tries ∧ s.tries ≤ 8
 lf : 0 ≤ s.left ∧ s.left ≤ 8
 lq : s.quiet = false → 1 ≤ s.left
 ln : s.l.length ≤ 1000
 nn : ∀ y ∈ s.l, k = 2 → 0 ≤ y.c.n ∧ y.c.n ≤ 1000000
 neg : s.at_ < 0 → s.at_ = -1 ∧ (s.l = [] ∨ (cellsS k p s.l s.l.length).2 = true)
 pos : 0 ≤ s.at_ → s.at_ < s.l.length ∧ s.quiet = false
structure RI (i : Nat) (x : RnS) : Prop where
 leg : legal x.k x.p = 0
 st : x.st ≤ i
 mi : MI x.k i x.M
 fi : ∀ (j : Nat) f, x.fs[j]? = some (some f) → FI x.k i f
 cs : x.cs.length ≤ i
 a6 : x.ats.length = 6
 al : ∀ a ∈ x.ats, a ≤ x.cs.length
 tk : x.tk ≤ i + 1
 sc : ∀ s, x.sc = some s → ScI x.k x.p s
 one : x.sc = none ∨ x.sh = none
theorem ScI.two {k p s} (h : ScI k p s) : two2 k s.l := by
 intro hk hl
 match hs : s.l, hl with
 | a :: b :: r, _ =>
  have h1 := h.nn a (by rw [hs]; simp) hk
  have h2 := h.nn b (by rw [hs]; simp) hk
  exact ⟨a, b, r, rfl, h1.1, h1.2, h2.1, h2.2⟩
theorem cells_lt {k : Int} {p : Nat} (hp : p ≤ 16) {l : List Sn} (h0 : k = 2 → 0 ≤ nAt l 0) {i : Nat} (h : (cellsS k p l i).2 = true) (hg : k = 4 → (gatesN p).length ≤ 900) : i < 1000 := by
 unfold cellsS at h
 split at h
 ·rename_i hk
  split at h
  ·omega
  ·simp only [Bool.and_eq_true, decide_eq_true_eq] at h
   have h1 := h0 hk
   have : 0 ≤ nAt l 0 * (p : Int) := Int.mul_nonneg h1 (by omega)
   omega
 ·split at h
  ·rename_i h4; have := hg h4; simp at h; omega
  ·simp at h; omega
theorem gates900 (p : Nat) (hw : widthN p) : (gatesN p).length ≤ 900 := by
 rcases hw with rfl | rfl | rfl | rfl | rfl <;> decide
def begN (x : RnS) (t : Int) (o : Rw) : RnS × Int :=
 if begO x.k x.cl x.fs t o = 0 then ({ x with fs := x.fs.set t.toNat (some (begF o)), cs := x.cs ++ [⟨t.toNat, o, x.st, -1, noA⟩], ats := x.ats.set t.toNat (x.cs.length + 1) }, 0)
 else (x, begO x.k x.cl x.fs t o)
def pickE (x : RnS) (n : Nat) (f : FrR) : RnS :=
 {x with M := (stepP x.k x.p x.M f).m, fs := x.fs.set n (if (stepP x.k x.p x.M f).d then none else some (stepP x.k x.p x.M f).f), st := x.st + 1,
         cs := (recC x.cs x.ats n (stepP x.k x.p x.M f).d x.st (stepP x.k x.p x.M f).a).1, ats := (recC x.cs x.ats n (stepP x.k x.p x.M f).d x.st (stepP x.k x.p x.M f).a).2 }
def shotS (x : RnS) (s s' : Scn) : Sht := ⟨x.k, x.p, s'.l, if s.quiet then s.tries else s.tries - s.left + 1, s.quiet⟩
def stepN (x : RnS) (s : Scn) (busy : Nat) : RnS :=
 if (stepS x.k x.p x.M s busy).2 = 0 then { x with sc := some (stepS x.k x.p x.M s busy).1 }
 else if (stepS x.k x.p x.M s busy).2 = 1 then { x with sc := none, sh := some (shotS x s (stepS x.k x.p x.M s busy).1), cl := if s.quiet && !s.closed then false else x.cl }
 else { x with sc := some (failS s x.cl), cl := if s.left = 1 then true else x.cl }
def whoN (x : RnS) (pick : Int) : Option (Nat × FrR) :=
 match pickL (busyO x.fs 0) (match x.sc with | none => pick | some _ => into pick ((busyO x.fs 0).length + 1)) with
 | none => none
 | some n => match x.fs[n]? with
  | some (some f) => if x.sc.isSome = true ∧ ¬ into pick ((busyO x.fs 0).length + 1) < (busyO x.fs 0).length then none else some (n, f)
  | _ => none
def pickN (x : RnS) (pick : Int) : RnS := match whoN x pick with
 | some (n, f) => { pickE x n f with tk := x.tk + 1 }
 | none => match x.sc with
  | none => x
  | some s => { stepN x s (busyO x.fs 0).length with tk := x.tk + 1 }
def gatN (x : RnS) (b : Bool) : RnS := match x.sc with
 | none => { x with cl := b }
 | some s => if s.quiet then { x with sc := some { s with closed := b } } else { x with cl := b }
def startN (x : RnS) (n : Int) : RnS × Int :=
 if n < 1 ∨ 8 < n then (x, 4) else if x.sc.isSome || x.sh.isSome then (x, 11) else ({ x with sc := some ⟨n, n, [], -1, false, false⟩ }, 0)
def quietN (x : RnS) : Bool := match x.sc with
 | none => false
 | some s => s.quiet
theorem RI.mono {i x} (h : RI i x) : RI (i + 1) x :=
 {h with st := by have := h.st; omega, mi := h.mi.mono, fi := fun j f hf => (h.fi j f hf).mono, cs := by have := h.cs; omega, tk := by have := h.tk; omega }
theorem setN {P : FrR → Prop} {fs : List (Option FrR)} {n : Nat} {o : Option FrR} (h : ∀ (j : Nat) f, fs[j]? = some (some f) → P f) (ho : ∀ f, o = some f → P f) : ∀ (j : Nat) f, (fs.set n o)[j]? = some (some f) → P f := by
 intro j f hf
 rw [List.getElem?_set] at hf
 split at hf
 ·split at hf
  ·injection hf with hf; exact ho f hf
  ·cases hf
 ·exact h j f hf
theorem recC_len (cs : List Cll) (ats : List Nat) (n : Nat) (d : Bool) (st : Nat) (a : An) : (recC cs ats n d st a).1.length = cs.length ∧ (recC cs ats n d st a).2.length = ats.length := by
 unfold recC
 split
 ·exact ⟨rfl, rfl⟩
 ·split
  ·split
   ·exact ⟨rfl, rfl⟩
   ·simp
  ·exact ⟨rfl, rfl⟩
theorem recC_at {cs : List Cll} {ats : List Nat} {m : Nat} (h : ∀ a ∈ ats, a ≤ m) (n : Nat) (d : Bool) (st : Nat) (a : An) : ∀ y ∈ (recC cs ats n d st a).2, y ≤ m := by
 unfold recC
 split
 ·exact h
 ·split
  ·split
   ·exact h
   ·intro y hy
    rcases List.mem_or_eq_of_mem_set hy with hy | rfl
    ·exact h y hy
    ·omega
  ·exact h
theorem RI.beg {i x} (h : RI i x) (t : Int) (o : Rw) (ho : FI x.k (i + 1) (begF o)) : RI (i + 1) (begN x t o).1 := by
 unfold begN
 split
 ·exact { h.mono with
   fi := setN (P := fun f => FI x.k (i + 1) f) (fun j f hf => (h.fi j f hf).mono) (fun f hf => by injection hf with hf; subst hf; exact ho)
   cs := by have := h.cs; simp; omega
   a6 := by simp [h.a6]
   al := fun a ha => by
    rcases List.mem_or_eq_of_mem_set ha with ha | rfl
    ·have := h.al a ha; simp; omega
    ·simp }
 ·exact h.mono
theorem RI.pickE {i x n f} (h : RI i x) (hi : i ≤ 5000) (hf : x.fs[n]? = some (some f)) : RI (i + 1) { pickE x n f with tk := x.tk + 1 } := by
 have S := si_step h.leg h.mi (h.fi n f hf) hi
 refine { h.mono with st := ?_, mi := S.m, fi := ?_, cs := ?_, a6 := ?_, al := ?_, tk := ?_ }
 ·have := h.st; simp only [AM.pickE]; omega
 ·refine setN (P := fun f => FI x.k (i + 1) f) (fun j f hf => (h.fi j f hf).mono) (fun g hg => ?_)
  split at hg
  ·cases hg
  ·rename_i hd; injection hg with hg; subst hg; exact S.f (by simpa using hd)
 ·have := h.cs; simp only [AM.pickE, (recC_len _ _ _ _ _ _).1]; omega
 ·simp only [AM.pickE, (recC_len _ _ _ _ _ _).2]; exact h.a6
 ·simp only [AM.pickE, (recC_len _ _ _ _ _ _).1]
  exact recC_at h.al _ _ _ _
 ·have := h.tk; simp only; omega
theorem nAt_nn {k : Int} {l : List Sn} (h : ∀ y ∈ l, k = 2 → 0 ≤ y.c.n ∧ y.c.n ≤ 1000000) (hk : k = 2) (j : Nat) : 0 ≤ nAt l j := by
 unfold nAt
 split
 ·rename_i x hx; exact (h x (List.mem_of_getElem? hx) hk).1
 ·omega
theorem ScI.len {k : Int} {p : Nat} {s} (hl : legal k p = 0) (h : ScI k p s) (ha : s.at_ < 0) : s.l.length < 1000 := by
 have hp := legal_p hl
 rcases (h.neg ha).2 with h0 | h0
 ·rw [h0]; simp
 ·exact cells_lt (by omega) (fun hk => nAt_nn h.nn hk 0) h0 (fun h4 => gates900 p (by subst h4; exact legal_width hl))
theorem rdM_ok2 {k : Int} {i : Nat} {M : Mem} (h : MI k i M) (hi : i ≤ 100000) (hk : k = 2) (a : Int) : 0 ≤ (rdM M a).n ∧ (rdM M a).n ≤ 1000000 := by
 have := h.num a
 subst hk
 simp [nb] at this
 omega
theorem ScI.step {k : Int} {p i : Nat} {M : Mem} {s : Scn} (hl : legal k p = 0) (hM : MI k i M) (hi : i ≤ 100000) (h : ScI k p s) (busy : Int) (h0 : (stepS k p M s busy).2 = 0) : ScI k p (stepS k p M s busy).1 := by
 unfold stepS at h0 ⊢
 by_cases hw : s.quiet = true ∧ 0 < busy
 ·rw [if_pos hw]; exact h
 ·rw [if_neg hw] at h0 ⊢
  by_cases ha : s.at_ < 0
  ·rw [if_pos ha] at h0 ⊢
   have hln := h.len hl ha
   have hnn : ∀ y ∈ s.l ++ [⟨(cellsS k p s.l s.l.length).1, rdM M (cellsS k p s.l s.l.length).1⟩], k = 2 → 0 ≤ y.c.n ∧ y.c.n ≤ 1000000 := by
    intro y hy hk
    rcases List.mem_append.1 hy with hy | hy
    ·exact h.nn y hy hk
    ·simp at hy; subst hy; exact rdM_ok2 hM hi hk _
   split at h0
   ·rename_i hc
    rw [if_pos hc]
    exact { h with ln := by simp; omega, nn := hnn, neg := fun _ => ⟨(h.neg ha).1, .inr (by simpa using hc)⟩, pos := fun hp => by simp only at hp; omega }
   ·rename_i hc
    rw [if_neg hc]
    have hq : s.quiet = false := by
     cases e : s.quiet with
     | false => rfl
     | true => rw [e] at h0; simp at h0
    exact { h with ln := by simp; omega, nn := hnn, neg := fun hp => by simp at hp, pos := fun _ => ⟨by simp, hq⟩ }
  ·rw [if_neg ha] at h0 ⊢
   cases hx : s.l[s.at_.toNat]? with
   | none => simp only [hx]; exact h
   | some x =>
    rw [hx] at h0
    simp only at h0 ⊢
    have hpos := h.pos (by omega)
    split at h0
    ·rename_i hv
     rw [if_pos hv]
     split at h0
     ·cases h0
     ·rename_i hne
      exact { h with neg := fun hp => by simp only at hp; omega, pos := fun _ => ⟨by simp only; omega, hpos.2⟩ }
    ·cases h0
theorem ScI.fail {k : Int} {p : Nat} {s : Scn} (h : ScI k p s) (hlf : 1 ≤ s.left) (cl : Bool) : ScI k p (failS s cl) := by
 have h1 := h.tr
 have h2 := h.lf
 unfold failS
 split
 ·exact ⟨h1, by simp only; omega, fun e => by simp at e, by simp, by simp, fun _ => ⟨rfl, .inl rfl⟩, fun e => by simp at e⟩
 ·exact ⟨h1, by simp only; omega, fun e => by simp only; omega, by simp, by simp, fun _ => ⟨rfl, .inl rfl⟩, fun e => by simp at e⟩
theorem stepS_two {k : Int} {p : Nat} {M : Mem} {s : Scn} (h : ScI k p s) {busy : Int} (h2 : (stepS k p M s busy).2 = 2) : 0 ≤ s.at_ ∧ s.quiet = false ∧ 1 ≤ s.left := by
 unfold stepS at h2
 split at h2
 ·cases h2
 ·split at h2
  ·split at h2
   ·cases h2
   ·split at h2 <;> cases h2
  ·rename_i ha
   have hp := h.pos (by omega)
   exact ⟨by omega, hp.2, h.lq hp.2⟩
theorem stepS_012 (k : Int) (p : Nat) (M : Mem) (s : Scn) (busy : Int) : (stepS k p M s busy).2 = 0 ∨ (stepS k p M s busy).2 = 1 ∨ (stepS k p M s busy).2 = 2 := by
 unfold stepS
 split
 ·exact .inl rfl
 ·split
  ·split
   ·exact .inl rfl
   ·split
    ·exact .inr (.inl rfl)
    ·exact .inl rfl
  ·split
   ·exact .inl rfl
   ·split
    ·split
     ·exact .inr (.inl rfl)
     ·exact .inl rfl
    ·exact .inr (.inr rfl)
theorem RI.stepN {i x s} (h : RI i x) (hi : i ≤ 5000) (hs : x.sc = some s) (busy : Nat) : RI (i + 1) { stepN x s busy with tk := x.tk + 1 } := by
 have S := h.sc s hs
 have hsh : x.sh = none := by rcases h.one with e | e; rw [hs] at e; cases e; exact e
 have ht := h.tk
 unfold AM.stepN
 split
 ·rename_i h0
  exact { h.mono with tk := by simp only; omega, sc := fun s' e => by injection e with e; subst e; exact S.step h.leg h.mi (by omega) busy h0, one := .inr hsh }
 ·split
  ·exact { h.mono with tk := by simp only; omega, sc := fun s' e => (nomatch e), one := .inl rfl }
  ·rename_i h0 h1
   have h2 : (stepS x.k x.p x.M s busy).2 = 2 := by rcases stepS_012 x.k x.p x.M s busy with e | e | e; exact absurd e h0; exact absurd e h1; exact e
   exact { h.mono with tk := by simp only; omega, sc := fun s' e => by injection e with e; subst e; exact S.fail (stepS_two S h2).2.2 _, one := .inr hsh }
theorem RI.pick {i x} (h : RI i x) (hi : i ≤ 5000) (pick : Int) : RI (i + 1) (pickN x pick) := by
 unfold pickN
 cases hw : whoN x pick with
 | some q =>
  obtain ⟨n, f⟩ := q
  simp only
  refine h.pickE hi ?_
  unfold whoN at hw
  split at hw
  ·cases hw
  ·split at hw
   ·split at hw
    ·cases hw
    ·cases hw; assumption
   ·cases hw
 | none =>
  simp only
  cases hs : x.sc with
  | none => exact h.mono
  | some s => exact h.stepN hi hs _
theorem RI.gate {i x} (h : RI i x) (b : Bool) : RI (i + 1) (gatN x b) := by
 unfold gatN
 split
 ·exact { h.mono with sc := h.sc }
 ·rename_i s hs
  split
  ·refine { h.mono with sc := fun s' e => ?_, one := .inr (by rcases h.one with e | e; rw [hs] at e; cases e; exact e) }
   injection e with e; subst e
   have S := h.sc s hs
   exact ⟨S.tr, S.lf, S.lq, S.ln, S.nn, S.neg, S.pos⟩
  ·exact { h.mono with sc := h.sc }
theorem RI.start {i x} (h : RI i x) (n : Int) : RI (i + 1) (startN x n).1 := by
 unfold startN
 split
 ·exact h.mono
 ·rename_i hn
  split
  ·exact h.mono
  ·rename_i hb
   refine { h.mono with sc := fun s' e => ?_, one := .inr (by cases e : x.sh <;> simp [e] at hb ⊢) }
   injection e with e; subst e
   exact ⟨by simp only; omega, by simp only; omega, fun _ => by simp only; omega, by simp, by simp, fun _ => ⟨rfl, .inl rfl⟩, fun e => by simp at e⟩
theorem RI.tk1 {i x} (h : RI i x) : RI (i + 1) { x with tk := x.tk + 1 } :=
 {h.mono with tk := by have := h.tk; simp only; omega, sc := h.sc, one := h.one }
theorem RI.take {i x} (h : RI i x) : RI (i + 1) { x with sh := none } := { h.mono with sc := h.sc, one := .inr rfl }
end Go.AM

namespace Go.AM
def ownN (er rc ru : Nat) (e : Eng) (sp : Option Nat) (y : Nat) : Prop := own er e y ∨ y = rc ∨ y = ru ∨ sp = some y
structure RR (er rc ru : Nat) (sg : List (List D)) (x : RnS) (e : Eng) (sp hp : Option Nat) : Prop where
 R : Rep sg er e x.M x.fs
 ek : e.k = x.k
 ep : e.p = x.p
 ecl : e.cl = x.cl
 est : e.st = x.st
 hrc : sg[rc]? = some (eRec er x.cs x.ats)
 hru : sg[ru]? = some (eRun rc sp hp x.tk)
 dc : ¬ own er e rc
 du : ¬ own er e ru
 dcu : rc ≠ ru
 sp0 : sp = none → x.sc = none
 sp1 : ∀ q, sp = some q → ∃ s, x.sc = some s ∧ sg[q]? = some (eScn s) ∧ ¬ own er e q ∧ q ≠ rc ∧ q ≠ ru
 hp0 : hp = none → x.sh = none
 hp1 : ∀ h, hp = some h → ∃ s, x.sh = some s ∧ sg[h]? = some (eSht s) ∧ ¬ own er e h ∧ h ≠ rc ∧ h ≠ ru
structure Fr (P Q : Nat → Prop) (sg sg' : List (List D)) : Prop where
 len : sg.length ≤ sg'.length
 same : ∀ y, y < sg.length → ¬ P y → sg'[y]? = sg[y]?
 own : ∀ y, y < sg.length → Q y → P y
theorem Fr.rfl' (P : Nat → Prop) (sg : List (List D)) : Fr P P sg sg := ⟨Nat.le_refl _, fun _ _ _ => rfl, fun _ _ h => h⟩
theorem Fr.trans {P Q R : Nat → Prop} {a b c : List (List D)} (h : Fr P Q a b) (k : Fr Q R b c) : Fr P R a c :=
 ⟨Nat.le_trans h.len k.len, fun y hy hn => by
  have hb : y < b.length := Nat.lt_of_lt_of_le hy h.len
  rw [k.same y hb (fun hq => hn (h.own y hy hq)), h.same y hy hn], fun y hy hr => h.own y hy (k.own y (Nat.lt_of_lt_of_le hy h.len) hr)⟩
theorem RR.lc {er rc ru sg x e sp hp} (h : RR er rc ru sg x e sp hp) : rc < sg.length := get_lt h.hrc
theorem RR.lu {er rc ru sg x e sp hp} (h : RR er rc ru sg x e sp hp) : ru < sg.length := get_lt h.hru
theorem RR.le {er rc ru sg x e sp hp} (h : RR er rc ru sg x e sp hp) : er < sg.length := get_lt h.R.hr
theorem RR.sc_none {er rc ru sg x e sp hp} (h : RR er rc ru sg x e sp hp) (hs : x.sc = none) : sp = none := by
 cases sp with
 | none => rfl
 | some q => obtain ⟨s, h1, _⟩ := h.sp1 q rfl; rw [hs] at h1; cases h1
theorem RR.sc_some {er rc ru sg x e sp hp s} (h : RR er rc ru sg x e sp hp) (hs : x.sc = some s) : ∃ q, sp = some q ∧ sg[q]? = some (eScn s) ∧ ¬ own er e q ∧ q ≠ rc ∧ q ≠ ru := by
 cases sp with
 | none => rw [h.sp0 rfl] at hs; cases hs
 | some q => obtain ⟨s', h1, h2⟩ := h.sp1 q rfl; rw [hs] at h1; cases h1; exact ⟨q, rfl, h2⟩
theorem RR.sh_none {er rc ru sg x e sp hp} (h : RR er rc ru sg x e sp hp) (hs : x.sh = none) : hp = none := by
 cases hp with
 | none => rfl
 | some q => obtain ⟨s, h1, _⟩ := h.hp1 q rfl; rw [hs] at h1; cases h1
theorem RR.sh_some {er rc ru sg x e sp hp s} (h : RR er rc ru sg x e sp hp) (hs : x.sh = some s) : ∃ q, hp = some q ∧ sg[q]? = some (eSht s) ∧ ¬ own er e q ∧ q ≠ rc ∧ q ≠ ru := by
 cases hp with
 | none => rw [h.hp0 rfl] at hs; cases hs
 | some q => obtain ⟨s', h1, h2⟩ := h.hp1 q rfl; rw [hs] at h1; cases h1; exact ⟨q, rfl, h2⟩
theorem RR.eng {er rc ru sg x e sp hp sg'} (h : RR er rc ru sg x e sp hp) {e' : Eng} {M' : Mem} {fs' : List (Option FrR)} {cs' : List Cll} {at' : List Nat} {cl' : Bool} {st' : Nat} (hcl : e'.cl = cl') (hst : e'.st = st') (hl : sg.length ≤ sg'.length) (hR : Rep sg' er e' M' fs') (hk : e'.k = e.k) (hp' : e'.p = e.p)
    (hrc : sg'[rc]? = some (eRec er cs' at')) (ho : ∀ y, y < sg.length → own er e' y → own er e y) (hf : ∀ y, y < sg.length → ¬ own er e y → y ≠ rc → sg'[y]? = sg[y]?) :
    RR er rc ru sg' { x with M := M', fs := fs', cl := cl', st := st', cs := cs', ats := at' } e' sp hp ∧ Fr (ownN er rc ru e sp) (ownN er rc ru e' sp) sg sg' := by
 refine ⟨⟨hR, hk.trans h.ek, hp'.trans h.ep, hcl, hst, hrc, ?_, fun hh => h.dc (ho rc h.lc hh), fun hh => h.du (ho ru h.lu hh), h.dcu, h.sp0, fun q hq => ?_, h.hp0, fun q hq => ?_⟩, ⟨hl, fun y hy hn => ?_, fun y hy hq => ?_⟩⟩
 ·rw [hf ru h.lu h.du (Ne.symm h.dcu)]; exact h.hru
 ·obtain ⟨s, a, b, c, d, f⟩ := h.sp1 q hq
  exact ⟨s, a, by rw [hf q (get_lt b) c d]; exact b, fun hh => c (ho q (get_lt b) hh), d, f⟩
 ·obtain ⟨s, a, b, c, d, f⟩ := h.hp1 q hq
  exact ⟨s, a, by rw [hf q (get_lt b) c d]; exact b, fun hh => c (ho q (get_lt b) hh), d, f⟩
 ·exact hf y hy (fun hh => hn (.inl hh)) (fun hh => hn (.inr (.inl hh)))
 ·rcases hq with hq | hq
  ·exact .inl (ho y hy hq)
  ·exact .inr hq
def Tkn (sg sg' : List (List D)) (lo : Nat) : Prop := lo < sg.length ∨ sg'.length = sg.length
theorem Tkn.tk {sg sg' : List (List D)} {lo : Nat} (h : Tkn sg sg' lo) {n : Nat} (hn : n = sg.length) (hl : n ≤ lo) : sg'.take n = sg' := by
 subst hn
 rcases h with h | h
 ·omega
 ·exact List.take_of_length_le (by omega)
theorem rr_beg {i er rc ru sg x e sp hp} (h : RR er rc ru sg x e sp hp) (hI : RI i x) (hi : i ≤ 1000) (t : Int) (o : Rw) :
    ∃ sg' e' lo, LL.call n_history_Recorder_Begin [.p rc 0, .i .i64 t, eOp o] sg sg.length = some (.i .i64 (begN x t o).2, sg', lo) ∧ RR er rc ru sg' (begN x t o).1 e' sp hp ∧ Fr (ownN er rc ru e sp) (ownN er rc ru e' sp) sg sg' ∧ Tkn sg sg' lo := by
 have hb0 : begO e.k e.cl x.fs t o = begO x.k x.cl x.fs t o := by rw [h.ek, h.ecl]
 have hcs : x.cs.length ≤ 1000 := by have := hI.cs; omega
 unfold begN
 by_cases hb : begO x.k x.cl x.fs t o = 0
 ·rw [if_pos hb]
  obtain ⟨sg', e', A1, A2, A3, A4, A5, A6, A7, A8, A9, A10, A11, A12, A13⟩ := c_history_Begin er rc e x.M x.fs x.cs x.ats sg h.R h.hrc h.dc hI.a6 hcs t o (by rw [hb0]; exact hb)
  have := h.eng (A10.trans h.ecl) (A11.trans h.est) (by omega) A5 A7 A8 A6 (fun y hy ho => by
   rcases ho with ho | ho | ⟨j, ho⟩
   ·exact .inl ho
   ·exact .inr (.inl (by rw [← A9]; exact ho))
   ·rcases A13 j y ho with hh | hh
    ·exact .inr (.inr ⟨j, hh⟩)
    ·omega) (fun y hy ho hc => A12 y hy (fun hh => ho (.inl hh)) hc)
  refine ⟨sg', e', _, A1, ?_, this.2, .inl h.le⟩
  have h2 := this.1
  rw [h.est] at h2
  exact h2
 ·rw [if_neg hb]
  have N := c_history_Begin_no er rc e x.M x.fs x.cs x.ats sg h.R h.hrc h.dc hI.a6 hcs t o (by rw [hb0]; exact hb)
  rw [hb0] at N
  exact ⟨sg, e, _, N, h, .rfl' _ _, .inr rfl⟩
theorem rr_pickE {i er rc ru sg x e sp hp} (h : RR er rc ru sg x e sp hp) (hI : RI i x) (hi : i ≤ 1000) (pick : Int) (n : Nat) (hn : pickL (busyO x.fs 0) pick = some n) (f : FrR) (hf : x.fs[n]? = some (some f)) :
    ∃ sg' e', LL.call n_history_Recorder_Pick [.p rc 0, .i .i64 pick] sg sg.length = some (.t [eEv n f.o (stepP x.k x.p x.M f).a (stepP x.k x.p x.M f).d, .b true], sg', sg.length) ∧ sg'.length = sg.length ∧ RR er rc ru sg' (pickE x n f) e' sp hp ∧
     Fr (ownN er rc ru e sp) (ownN er rc ru e' sp) sg sg' := by
 have hcs : x.cs.length ≤ 1000 := by have := hI.cs; omega
 have hst := hI.st
 obtain ⟨sg', e', A1, A2, A3, A4, A5, A6, A7, A8, A9, A10, A11⟩ := c_history_Pick er rc e x.M x.fs x.cs x.ats sg h.R h.hrc h.dc hI.a6 hcs i (by omega) (by rw [h.ek, h.ep]; exact hI.leg) (by rw [h.est]; omega) (by rw [h.ek]; exact hI.mi) (by rw [h.ek]; exact hI.fi) hI.al pick n hn f hf
 rw [h.ek, h.ep] at A1 A3 A4
 have := h.eng (A8.trans h.ecl) (by rw [A9, h.est] : e'.st = x.st + 1) (by omega) A3 A5 A6 A4 (fun y hy ho => by
     rcases ho with ho | ho | ⟨j, ho⟩
     ·exact .inl ho
     ·exact .inr (.inl (by rw [← A7]; exact ho))
     ·exact .inr (.inr ⟨j, A11 j y ho⟩)) (fun y hy ho hc => A10 y ho hc)
 refine ⟨sg', e', A1, A2, ?_, this.2⟩
 have h2 := this.1
 rw [h.est] at h2
 exact h2
end Go.AM

namespace Go.AM
theorem Rep.gate {sg r e M fs} (h : Rep sg r e M fs) (b : Bool) : Rep (sg.set r (eEng { e with cl := b })) r { e with cl := b } M fs := by
 have hl := get_lt h.hr
 refine ⟨List.getElem?_set_self hl, by rw [List.getElem?_set_ne (Ne.symm h.rm)]; exact h.hm, h.h6, h.f6, fun i q hq => ?_, h.nn, h.rm, h.qr, h.qq⟩
 obtain ⟨f, K, a, b, c⟩ := h.fr i q hq
 exact ⟨f, K, a, b, by rw [List.getElem?_set_ne (Ne.symm (h.qr i q hq).1)]; exact c⟩
theorem RR.scn {er rc ru sg x e q hp s s'} (h : RR er rc ru sg x e (some q) hp) (hs : x.sc = some s) : RR er rc ru (sg.set q (eScn s')) { x with sc := some s' } e (some q) hp ∧ Fr (ownN er rc ru e (some q)) (ownN er rc ru e (some q)) sg (sg.set q (eScn s')) := by
 obtain ⟨s0, a, b, c, d, f⟩ := h.sp1 q rfl
 have hql := get_lt b
 refine ⟨⟨h.R.keep (fun y hy => List.getElem?_set_ne (fun hh => c (by rw [hh]; exact hy))), h.ek, h.ep, h.ecl, h.est, by rw [List.getElem?_set_ne d]; exact h.hrc, by rw [List.getElem?_set_ne f]; exact h.hru, h.dc, h.du, h.dcu, fun hh => (nomatch hh), fun q' hq' => ?_, h.hp0, fun z hz => ?_⟩, ⟨by simp, fun y hy hn => List.getElem?_set_ne (fun hh => hn (.inr (.inr (.inr (by rw [hh]))))), fun y hy hh => hh⟩⟩
 ·injection hq' with hq'; subst hq'
  exact ⟨s', rfl, List.getElem?_set_self hql, c, d, f⟩
 ·obtain ⟨s1, a1, b1, c1⟩ := h.hp1 z hz
  have hzq : q ≠ z := by
   rintro rfl
   rw [b] at b1
   simp [eScn, eSht] at b1
  exact ⟨s1, a1, by rw [List.getElem?_set_ne hzq]; exact b1, c1⟩
theorem RR.clo {er rc ru sg x e sp hp} (h : RR er rc ru sg x e sp hp) (b : Bool) : RR er rc ru (sg.set er (eEng { e with cl := b })) { x with cl := b } { e with cl := b } sp hp ∧ Fr (ownN er rc ru e sp) (ownN er rc ru { e with cl := b } sp) sg (sg.set er (eEng { e with cl := b })) := by
 have G : ∀ y, ¬ own er e y → (sg.set er (eEng { e with cl := b }))[y]? = sg[y]? := fun y hy => List.getElem?_set_ne (fun hh => hy (.inl hh.symm))
 have := h.eng (e' := { e with cl := b }) (sg' := sg.set er (eEng { e with cl := b })) rfl h.est (by simp) (h.R.gate b) rfl rfl (by rw [G rc h.dc]; exact h.hrc) (fun y _ ho => ho) (fun y _ ho _ => G y ho)
 exact ⟨this.1, this.2⟩
theorem RR.tick {er rc ru sg x e sp hp} (h : RR er rc ru sg x e sp hp) (t : Nat) : RR er rc ru (sg.set ru (eRun rc sp hp t)) { x with tk := t } e sp hp ∧ Fr (ownN er rc ru e sp) (ownN er rc ru e sp) sg (sg.set ru (eRun rc sp hp t)) := by
 have G : ∀ y, y ≠ ru → (sg.set ru (eRun rc sp hp t))[y]? = sg[y]? := fun y hy => List.getElem?_set_ne (Ne.symm hy)
 refine ⟨⟨h.R.keep (fun y hy => G y (fun hh => h.du (by rw [← hh]; exact hy))), h.ek, h.ep, h.ecl, h.est, by rw [G rc h.dcu]; exact h.hrc, List.getElem?_set_self h.lu, h.dc, h.du, h.dcu, h.sp0, fun q hq => ?_, h.hp0, fun q hq => ?_⟩, ⟨by simp, fun y hy hn => G y (fun hh => hn (.inr (.inr (.inl hh)))), fun y hy hh => hh⟩⟩
 ·obtain ⟨s, a, b, c, d, f⟩ := h.sp1 q hq
  exact ⟨s, a, by rw [G q f]; exact b, c, d, f⟩
 ·obtain ⟨s, a, b, c, d, f⟩ := h.hp1 q hq
  exact ⟨s, a, by rw [G q f]; exact b, c, d, f⟩
theorem rr_quiet {er rc ru sg x e sp hp} (h : RR er rc ru sg x e sp hp) : LL.call n_scan_Runner_Quiet [.p ru 0] sg sg.length = some (.b (quietN x), sg, sg.length) := by
 have hru := h.hru
 cases hs : x.sc with
 | none =>
  have := h.sc_none hs
  subst this
  simp [eRun, eFp] at hru
  refine wp_call e_scan_Runner_Quiet rfl ?_
  simp [F_scan_Runner_Quiet, hru, quietN, hs]
 | some s =>
  obtain ⟨q, rfl, hq, _⟩ := h.sc_some hs
  simp [eRun, eFp] at hru
  simp [eScn] at hq
  refine wp_call e_scan_Runner_Quiet rfl ?_
  simp [F_scan_Runner_Quiet, hru, hq, quietN, hs]
theorem rr_closed {er rc ru sg x e sp hp} (h : RR er rc ru sg x e sp hp) : LL.call n_engine_Engine_Closed [.p er 0] sg sg.length = some (.b x.cl, sg, sg.length) := by
 rw [← h.ecl]; exact c_engine_Closed e sg er h.R.hr h.R.h6
theorem gatN_none {x : RnS} (hs : x.sc = none) (b : Bool) : gatN x b = { x with cl := b } := by
 unfold gatN
 split
 ·rfl
 ·rename_i s h; rw [hs] at h; cases h
theorem stepN_0 {x : RnS} {s s' : Scn} {busy : Nat} (h : stepS x.k x.p x.M s busy = (s', 0)) : stepN x s busy = { x with sc := some s' } := by
 unfold stepN; rw [h]; rfl
theorem stepN_1 {x : RnS} {s s' : Scn} {busy : Nat} (h : stepS x.k x.p x.M s busy = (s', 1)) : stepN x s busy = { x with sc := none, sh := some (shotS x s s'), cl := if s.quiet && !s.closed then false else x.cl } := by
 unfold stepN; rw [h]; rfl
theorem stepN_2 {x : RnS} {s s' : Scn} {busy : Nat} (h : stepS x.k x.p x.M s busy = (s', 2)) : stepN x s busy = { x with sc := some (failS s x.cl), cl := if s.left = 1 then true else x.cl } := by
 unfold stepN; rw [h]; rfl
theorem gatN_q {x : RnS} {s : Scn} (hs : x.sc = some s) (hq : s.quiet = true) (b : Bool) : gatN x b = { x with sc := some { s with closed := b } } := by
 unfold gatN
 split
 ·rename_i h; rw [hs] at h; cases h
 ·rename_i s' h; rw [hs] at h; cases h; rw [if_pos hq]
theorem gatN_n {x : RnS} {s : Scn} (hs : x.sc = some s) (hq : s.quiet = false) (b : Bool) : gatN x b = { x with cl := b } := by
 obtain ⟨k, p, M, fs, cl, st, cs, ats, sc, sh, tk⟩ := x
 simp only at hs
 subst hs
 simp [gatN, hq]
theorem rr_close {er rc ru sg x e sp hp} (h : RR er rc ru sg x e sp hp) :
    ∃ sg' e', LL.call n_scan_Runner_Close [.p ru 0] sg sg.length = some (.t [], sg', sg.length) ∧ RR er rc ru sg' (gatN x true) e' sp hp ∧ Fr (ownN er rc ru e sp) (ownN er rc ru e' sp) sg sg' := by
 have Q := rr_quiet h
 have hru := h.hru
 have hrc := h.hrc
 have hlt : ∀ l : List (List D), l.length = sg.length → List.take sg.length l = l := fun l hl => List.take_of_length_le (by omega)
 have hC := c_engine_Close e sg er h.R.hr h.R.h6
 cases hs : x.sc with
 | none =>
  have := h.sc_none hs
  subst this
  have K := h.clo true
  refine ⟨_, _, ?_, by rw [gatN_none hs]; exact K.1, K.2⟩
  rw [quietN, hs] at Q
  simp [eRun, eFp] at hru
  simp [eRec] at hrc
  refine wp_call e_scan_Runner_Close rfl ?_
  simp [F_scan_Runner_Close, hru, hrc, Q, hC, hlt]
 | some s =>
  obtain ⟨q, rfl, hq, _⟩ := h.sc_some hs
  rw [quietN, hs] at Q
  simp only at Q
  cases hqt : s.quiet with
  | true =>
   have K := h.scn (s' := { s with closed := true }) hs
   refine ⟨_, _, ?_, by rw [gatN_q hs hqt]; exact K.1, K.2⟩
   rw [hqt] at Q
   simp [eRun, eFp] at hru
   simp [eScn, hqt] at hq
   refine wp_call e_scan_Runner_Close rfl ?_
   simp [F_scan_Runner_Close, hru, hq, Q, hlt, eScn, hqt]
  | false =>
   have K := h.clo true
   refine ⟨_, _, ?_, by rw [gatN_n hs hqt]; exact K.1, K.2⟩
   rw [hqt] at Q
   simp [eRun, eFp] at hru
   simp [eRec] at hrc
   refine wp_call e_scan_Runner_Close rfl ?_
   simp [F_scan_Runner_Close, hru, hrc, Q, hC, hlt]
theorem rr_open {er rc ru sg x e sp hp} (h : RR er rc ru sg x e sp hp) :
    ∃ sg' e', LL.call n_scan_Runner_Open [.p ru 0] sg sg.length = some (.t [], sg', sg.length) ∧ RR er rc ru sg' (gatN x false) e' sp hp ∧ Fr (ownN er rc ru e sp) (ownN er rc ru e' sp) sg sg' := by
 have Q := rr_quiet h
 have hru := h.hru
 have hrc := h.hrc
 have hlt : ∀ l : List (List D), l.length = sg.length → List.take sg.length l = l := fun l hl => List.take_of_length_le (by omega)
 have hC := c_engine_Open e sg er h.R.hr h.R.h6
 cases hs : x.sc with
 | none =>
  have := h.sc_none hs
  subst this
  have K := h.clo false
  refine ⟨_, _, ?_, by rw [gatN_none hs]; exact K.1, K.2⟩
  rw [quietN, hs] at Q
  simp [eRun, eFp] at hru
  simp [eRec] at hrc
  refine wp_call e_scan_Runner_Open rfl ?_
  simp [F_scan_Runner_Open, hru, hrc, Q, hC, hlt]
 | some s =>
  obtain ⟨q, rfl, hq, _⟩ := h.sc_some hs
  rw [quietN, hs] at Q
  simp only at Q
  cases hqt : s.quiet with
  | true =>
   have K := h.scn (s' := { s with closed := false }) hs
   refine ⟨_, _, ?_, by rw [gatN_q hs hqt]; exact K.1, K.2⟩
   rw [hqt] at Q
   simp [eRun, eFp] at hru
   simp [eScn, hqt] at hq
   refine wp_call e_scan_Runner_Open rfl ?_
   simp [F_scan_Runner_Open, hru, hq, Q, hlt, eScn, hqt]
  | false =>
   have K := h.clo false
   refine ⟨_, _, ?_, by rw [gatN_n hs hqt]; exact K.1, K.2⟩
   rw [hqt] at Q
   simp [eRun, eFp] at hru
   simp [eRec] at hrc
   refine wp_call e_scan_Runner_Open rfl ?_
   simp [F_scan_Runner_Open, hru, hrc, Q, hC, hlt]
theorem Rep.gate' {sg sg' r e M fs} (h : Rep sg r e M fs) (b : Bool) (hr : sg'[r]? = some (eEng { e with cl := b })) (ho : ∀ y, own r e y → y ≠ r → sg'[y]? = sg[y]?) : Rep sg' r { e with cl := b } M fs := by
 refine ⟨hr, by rw [ho e.m (.inr (.inl rfl)) h.rm]; exact h.hm, h.h6, h.f6, fun i q hq => ?_, h.nn, h.rm, h.qr, h.qq⟩
 obtain ⟨f, K, a, b, c⟩ := h.fr i q hq
 exact ⟨f, K, a, b, by rw [ho q (.inr (.inr ⟨i, hq⟩)) (h.qr i q hq).1]; exact c⟩
theorem rr_start {er rc ru sg x e sp hp} (h : RR er rc ru sg x e sp hp) (n : Int) :
    ∃ sg' sp' lo, LL.call n_scan_Runner_Start [.p ru 0, .i .i64 n] sg sg.length = some (.i .i64 (startN x n).2, sg', lo) ∧ RR er rc ru sg' (startN x n).1 e sp' hp ∧ Fr (ownN er rc ru e sp) (ownN er rc ru e sp') sg sg' ∧ Tkn sg sg' lo := by
 have S := c_scan_Start rc ru sp hp x.tk n sg h.hru
 have h1 : sp.isSome = x.sc.isSome := by
  cases hs : x.sc with
  | none => rw [h.sc_none hs]; rfl
  | some s => obtain ⟨q, rfl, _⟩ := h.sc_some hs; rfl
 have h2 : hp.isSome = x.sh.isSome := by
  cases hs : x.sh with
  | none => rw [h.sh_none hs]; rfl
  | some s => obtain ⟨q, rfl, _⟩ := h.sh_some hs; rfl
 unfold startN
 unfold startS at S
 rw [h1, h2] at S
 by_cases hn : n < 1 ∨ 8 < n
 ·rw [if_pos hn] at S ⊢
  exact ⟨sg, sp, _, by simpa using S, h, .rfl' _ _, .inr rfl⟩
 ·rw [if_neg hn] at S ⊢
  by_cases hb : (x.sc.isSome || x.sh.isSome) = true
  ·rw [if_pos hb] at S ⊢
   exact ⟨sg, sp, _, by simpa using S, h, .rfl' _ _, .inr rfl⟩
  ·rw [if_neg hb] at S ⊢
   rw [if_pos rfl] at S
   have hlu := h.lu
   have G : ∀ y, y < sg.length → y ≠ ru → (sg.set ru (eRun rc (some sg.length) hp x.tk) ++ [eScn ⟨n, n, [], -1, false, false⟩])[y]? = sg[y]? := fun y hy hn => by
    rw [List.getElem?_append_left (by simpa using hy), List.getElem?_set_ne (Ne.symm hn)]
   have hown : ∀ y, own er e y → y < sg.length := fun y hy => h.R.lt hy
   refine ⟨_, some sg.length, _, S, ⟨h.R.keep (fun y hy => G y (hown y hy) (fun hh => h.du (by rw [← hh]; exact hy))), h.ek, h.ep, h.ecl, h.est, by rw [G rc h.lc h.dcu]; exact h.hrc, ?_, h.dc, h.du, h.dcu, fun hh => (nomatch hh), fun q hq => ?_, h.hp0, fun q hq => ?_⟩, ⟨by simp, fun y hy hn => G y hy (fun hh => hn (.inr (.inr (.inl hh)))), fun y hy hh => ?_⟩, .inl hlu⟩
   ·rw [List.getElem?_append_left (by simpa using hlu)]
    exact List.getElem?_set_self hlu
   ·injection hq with hq; subst hq
    refine ⟨_, rfl, by rw [List.getElem?_append_right (by simp)]; simp, fun hh => ?_, fun hh => ?_, fun hh => ?_⟩
    ·have := hown _ hh; omega
    ·have := h.lc; omega
    ·omega
   ·obtain ⟨s, a, b, c, d, f⟩ := h.hp1 q hq
    exact ⟨s, a, by rw [G q (get_lt b) f]; exact b, c, d, f⟩
   ·rcases hh with hh | hh | hh | hh
    ·exact .inl hh
    ·exact .inr (.inl hh)
    ·exact .inr (.inr (.inl hh))
    ·injection hh with hh; omega
theorem rr_take_none {er rc ru sg x e sp hp} (h : RR er rc ru sg x e sp hp) (hs : x.sh = none) :
    ∃ K, LL.call n_scan_Runner_Take [.p ru 0] sg sg.length = some (.t [.a [.i .i64 0, .i .i64 0, .l K 4 [], .i .i64 0, .b false], .b false], sg, sg.length) := by
 have := h.sh_none hs
 subst this
 exact c_scan_Take_none rc ru sp x.tk sg h.hru
theorem rr_take {er rc ru sg x e sp hp s} (h : RR er rc ru sg x e sp hp) (hs : x.sh = some s) :
    ∃ sg', LL.call n_scan_Runner_Take [.p ru 0] sg sg.length = some (.t [.a (eSht s), .b true], sg', sg.length) ∧ RR er rc ru sg' { x with sh := none } e sp none ∧ Fr (ownN er rc ru e sp) (ownN er rc ru e sp) sg sg' := by
 obtain ⟨q, rfl, hq, _⟩ := h.sh_some hs
 have T := c_scan_Take rc ru q sp x.tk s sg h.hru hq
 have G : ∀ y, y ≠ ru → (sg.set ru (eRun rc sp none x.tk))[y]? = sg[y]? := fun y hy => List.getElem?_set_ne (Ne.symm hy)
 refine ⟨_, T, ⟨h.R.keep (fun y hy => G y (fun hh => h.du (by rw [← hh]; exact hy))), h.ek, h.ep, h.ecl, h.est, by rw [G rc h.dcu]; exact h.hrc, List.getElem?_set_self h.lu, h.dc, h.du, h.dcu, h.sp0, fun q hq => ?_, fun _ => rfl, fun q hq => (nomatch hq)⟩, ⟨by simp, fun y hy hn => G y (fun hh => hn (.inr (.inr (.inl hh)))), fun y hy hh => hh⟩⟩
 obtain ⟨s, a, b, c, d, f⟩ := h.sp1 q hq
 exact ⟨s, a, by rw [G q f]; exact b, c, d, f⟩
theorem RR.shot {er rc ru sg x e q hp sg'} (h : RR er rc ru sg x e (some q) hp) (b : Bool) {b' : Bool} (hb : b = b') (s' : Sht) (hl : sg'.length = sg.length + 1) (hru : sg'[ru]? = some (eRun rc none (some sg.length) x.tk)) (hsh : sg'[sg.length]? = some (eSht s'))
    (her : sg'[er]? = some (eEng { e with cl := b })) (ho : ∀ y, y < sg.length → y ≠ ru → y ≠ er → y ≠ q → sg'[y]? = sg[y]?) :
    RR er rc ru sg' { x with sc := none, sh := some s', cl := b' } { e with cl := b } none (some sg.length) ∧ Fr (ownN er rc ru e (some q)) (ownN er rc ru { e with cl := b } none) sg sg' := by
 obtain ⟨s0, q1, q2, q3, q4, q5⟩ := h.sp1 q rfl
 have hown : ∀ y, own er e y → y < sg.length := fun y hy => h.R.lt hy
 refine ⟨⟨h.R.gate' b her (fun y hy hn => ho y (hown y hy) (fun hh => h.du (by rw [← hh]; exact hy)) hn (fun hh => q3 (by rw [← hh]; exact hy))), h.ek, h.ep, hb, h.est, ?_, hru, h.dc, h.du, h.dcu, fun _ => rfl, fun z hz => (nomatch hz), fun hh => (nomatch hh), fun z hz => ?_⟩, ⟨by omega, fun y hy hn => ho y hy (fun hh => hn (.inr (.inr (.inl hh)))) (fun hh => hn (.inl (.inl hh))) (fun hh => hn (.inr (.inr (.inr (by rw [hh]))))), fun y hy hh => ?_⟩⟩
 ·rw [ho rc h.lc h.dcu (fun hh => h.dc (.inl hh)) (Ne.symm q4)]; exact h.hrc
 ·injection hz with hz; subst hz
  refine ⟨s', rfl, hsh, fun hh => ?_, fun hh => ?_, fun hh => ?_⟩
  ·have := hown _ hh; omega
  ·have := h.lc; omega
  ·have := h.lu; omega
 ·rcases hh with hh | hh | hh | hh
  ·exact .inl hh
  ·exact .inr (.inl hh)
  ·exact .inr (.inr (.inl hh))
  ·cases hh
theorem rr_step {i er rc ru sg x e q hp' s} (h : RR er rc ru sg x e (some q) hp') (hI : RI i x) (hi : i ≤ 5000) (hs : x.sc = some s) (busy : Nat) :
    ∃ sg' e' sp' h2 lo, LL.call n_scan_Runner_step [.p ru 0, .i .i64 busy] sg sg.length = some (.t [], sg', lo) ∧ RR er rc ru sg' (stepN x s busy) e' sp' h2 ∧ Fr (ownN er rc ru e (some q)) (ownN er rc ru e' sp') sg sg' ∧ Tkn sg sg' lo := by
 obtain ⟨s0, q1, q2, q3, q4, q5⟩ := h.sp1 q rfl
 rw [hs] at q1; cases q1
 have S := hI.sc s hs
 have d1 : q ≠ er := fun hh => q3 (.inl hh)
 have d7 : q ≠ e.m := fun hh => q3 (.inr (.inl hh))
 have d4 : er ≠ ru := fun hh => h.du (.inl hh.symm)
 have d5 : er ≠ rc := fun hh => h.dc (.inl hh.symm)
 have hl : legal e.k e.p = 0 := by rw [h.ek, h.ep]; exact hI.leg
 have htr := S.tr
 have hlf := S.lf
 have hll := S.ln
 have hkp : stepS e.k e.p x.M s busy = stepS x.k x.p x.M s busy := by rw [h.ek, h.ep]
 by_cases hw : s.quiet = true ∧ 0 < (busy : Int)
 ·have hst : stepS x.k x.p x.M s busy = (s, 0) := by unfold stepS; rw [if_pos hw]
  have hx : stepN x s busy = x := by
   rw [stepN_0 hst, ← hs]
  rw [hx]
  exact ⟨sg, e, some q, _, _, c_scan_step_wait er rc ru q hp' x.tk e x.M x.cs x.ats s sg h.R.h6 h.R.hr h.hrc h.hru q2 h.R.hm hI.mi.good d1 q4 q5 d4 d5 h.dcu d7 hl busy hw, h, .rfl' _ _, .inr rfl⟩
 ·by_cases ha : s.at_ < 0
  ·have htw := S.two
   have hln := S.len hI.leg ha
   obtain ⟨l', hl'⟩ : ∃ l', l' = s.l ++ [⟨(cellsS x.k x.p s.l s.l.length).1, rdM x.M (cellsS x.k x.p s.l s.l.length).1⟩] := ⟨_, rfl⟩
   have hll' : l'.length = s.l.length + 1 := by rw [hl']; simp
   have hnn : ∀ y ∈ l', x.k = 2 → 0 ≤ y.c.n ∧ y.c.n ≤ 1000000 := by
    intro y hy hk
    rw [hl'] at hy
    rcases List.mem_append.1 hy with hy | hy
    ·exact S.nn y hy hk
    ·simp at hy; subst hy; exact rdM_ok2 hI.mi (by omega) hk _
   have htl : two2 x.k l' := by
    intro hk hl2
    match hs2 : l', hl2 with
    | a :: b :: r, _ =>
     have h1 := hnn a (by simp) hk
     have h2 := hnn b (by simp) hk
     exact ⟨a, b, r, rfl, h1.1, h1.2, h2.1, h2.2⟩
   have hst : stepS x.k x.p x.M s busy = (if (cellsS x.k x.p l' l'.length).2 then ({ s with l := l' }, 0) else ({ s with l := l', at_ := 0 }, if s.quiet then 1 else 0)) := by
    unfold stepS; rw [if_neg hw, if_pos ha, ← hl', ← hll']
   cases hc : (cellsS x.k x.p l' l'.length).2 with
   | true =>
    rw [hc] at hst
    simp only [if_true] at hst
    have C := c_scan_step_read er rc ru q hp' x.tk e x.M x.cs x.ats s sg h.R.h6 h.R.hr h.hrc h.hru q2 h.R.hm hI.mi.good d1 q4 q5 d4 d5 h.dcu d7 hl busy hw ha (by omega) (by rw [h.ek]; exact htw) { s with l := l' } (by rw [hkp, hst]) (by rw [h.ek]; exact htl) (by rw [hkp, hst])
    have K := h.scn (s' := { s with l := l' }) hs
    refine ⟨_, e, some q, hp', _, C, ?_, K.2, .inr (by simp)⟩
    rw [stepN_0 hst]; exact K.1
   | false =>
    rw [hc] at hst
    simp only [Bool.false_eq_true, if_false] at hst
    cases hqt : s.quiet with
    | false =>
     rw [hqt] at hst
     simp only [Bool.false_eq_true, if_false] at hst
     have C := c_scan_step_read er rc ru q hp' x.tk e x.M x.cs x.ats s sg h.R.h6 h.R.hr h.hrc h.hru q2 h.R.hm hI.mi.good d1 q4 q5 d4 d5 h.dcu d7 hl busy hw ha (by omega) (by rw [h.ek]; exact htw) { s with l := l', at_ := 0 } (by rw [hkp, hst, ← hqt]) (by rw [h.ek]; exact htl) (by rw [hkp, hst])
     have K := h.scn (s' := { s with l := l', at_ := 0 }) hs
     refine ⟨_, e, some q, hp', _, C, ?_, K.2, .inr (by simp)⟩
     rw [stepN_0 hst, ← hqt]; exact K.1
    | true =>
     rw [hqt] at hst
     simp only [if_true] at hst
     obtain ⟨sg', C, k1, k2, k3, k4, k5⟩ := c_scan_step_readdone er rc ru q hp' x.tk e x.M x.cs x.ats s sg h.R.h6 h.R.hr h.hrc h.hru q2 h.R.hm hI.mi.good d1 q4 q5 d4 d5 h.dcu d7 hl busy hw ha (by omega) (by rw [h.ek]; exact htw) l' (by rw [h.ek, h.ep]; exact hl') (by rw [h.ek]; exact htl) hqt (by rw [h.ek, h.ep]; exact hc) (by omega) (by omega)
     rw [h.ek, h.ep] at k3
     have K := h.shot _ (by rw [h.ecl]) _ k1 k2 k3 k4 k5
     refine ⟨_, _, none, some sg.length, _, C, ?_, K.2, .inl h.lu⟩
     have K1 := K.1
     rw [stepN_1 hst]
     simp only [shotS, hqt, if_true, Bool.true_and]
     exact K1
  ·have hp := S.pos (by omega)
   obtain ⟨n, hn⟩ : ∃ n : Nat, s.at_ = n := ⟨s.at_.toNat, by omega⟩
   have hnl : n < s.l.length := by omega
   obtain ⟨y, hy⟩ : ∃ y, s.l[n]? = some y := ⟨s.l[n], List.getElem?_eq_getElem hnl⟩
   have hst : stepS x.k x.p x.M s busy = if (rdM x.M y.at_).v = y.c.v then ({ s with at_ := s.at_ + 1 }, if s.at_ + 1 = s.l.length then 1 else 0) else (s, 2) := by
    unfold stepS; rw [if_neg hw, if_neg ha, hn]; simp only [Int.toNat_natCast, hy]
   by_cases hv : (rdM x.M y.at_).v = y.c.v
   ·rw [if_pos hv] at hst
    by_cases hlast : n + 1 = s.l.length
    ·rw [if_pos (by omega)] at hst
     obtain ⟨sg', C, k1, k2, k3, k4, k5⟩ := c_scan_step_last er rc ru q hp' x.tk e x.M x.cs x.ats s sg h.R.h6 h.R.hr h.hrc h.hru q2 h.R.hm hI.mi.good d1 q4 q5 d4 d5 h.dcu d7 hl busy hw n hn y hy (by omega) hv hlast (by omega) (by omega)
     rw [h.ek, h.ep] at k3
     have K := h.shot _ (by rw [h.ecl]) _ k1 k2 k3 k4 k5
     refine ⟨_, _, none, some sg.length, _, C, ?_, K.2, .inl h.lu⟩
     have K1 := K.1
     rw [stepN_1 hst]
     exact K1
    ·rw [if_neg (by omega)] at hst
     have C := c_scan_step_next er rc ru q hp' x.tk e x.M x.cs x.ats s sg h.R.h6 h.R.hr h.hrc h.hru q2 h.R.hm hI.mi.good d1 q4 q5 d4 d5 h.dcu d7 hl busy hw n hn y hy (by omega) hv hlast
     have K := h.scn (s' := { s with at_ := n + 1 }) hs
     refine ⟨_, e, some q, hp', _, C, ?_, K.2, .inr (by simp)⟩
     rw [stepN_0 hst, hn]; exact K.1
   ·rw [if_neg hv] at hst
    have C := c_scan_step_fail er rc ru q hp' x.tk e x.M x.cs x.ats s sg h.R.h6 h.R.hr h.hrc h.hru q2 h.R.hm hI.mi.good d1 q4 q5 d4 d5 h.dcu d7 hl busy hw n hn y hy (by omega) hv (by have := S.lq hp.2; omega)
    rw [h.ecl] at C
    have K := h.scn (s' := failS s x.cl) hs
    by_cases h1 : s.left = 1
    ·rw [if_pos h1] at C
     have K2 := K.1.clo true
     refine ⟨_, _, some q, hp', _, C, ?_, K.2.trans K2.2, .inr (by simp)⟩
     rw [stepN_2 hst, if_pos h1]
     exact K2.1
    ·rw [if_neg h1] at C
     refine ⟨_, _, some q, hp', _, C, ?_, K.2, .inr (by simp)⟩
     rw [stepN_2 hst, if_neg h1]
     exact K.1
end Go.AM

namespace Go.AM
def evN (x : RnS) (pick : Int) : D × Bool := match whoN x pick with
 | some (n, f) => (eEv n f.o (stepP x.k x.p x.M f).a (stepP x.k x.p x.M f).d, true)
 | none => match x.sc with
  | none => (eEv 0 ⟨0, ⟨0, 0⟩, 0, 0⟩ ⟨false, ⟨0, 0⟩, 0⟩ false, false)
  | some _ => (.a [.i .i64 (-1), .i .i64 0, .f .f64 0, .i .i64 0, .i .i64 0, .i .i64 0, .b false, .b false, .f .f64 0, .i .i64 0, .i .i64 0], true)
theorem pickL_nil (pick : Int) : pickL [] pick = none := rfl
theorem who_none {x : RnS} {pick : Int} {s : Scn} (hs : x.sc = some s) (h : ¬ into pick ((busyO x.fs 0).length + 1) < (busyO x.fs 0).length) : whoN x pick = none := by
 unfold whoN
 simp only [hs]
 split
 ·rfl
 ·split
  ·rw [if_pos ⟨rfl, h⟩]
  ·rfl
theorem who_some {x : RnS} {pick : Int} {s : Scn} (hs : x.sc = some s) (h : into pick ((busyO x.fs 0).length + 1) < (busyO x.fs 0).length) {n : Nat} {f : FrR} (hn : pickL (busyO x.fs 0) (into pick ((busyO x.fs 0).length + 1)) = some n) (hf : x.fs[n]? = some (some f)) : whoN x pick = some (n, f) := by
 unfold whoN
 simp only [hs, hn, hf]
 rw [if_neg (fun hh => hh.2 h)]
theorem who_one {x : RnS} {pick : Int} (hs : x.sc = none) {n : Nat} {f : FrR} (hn : pickL (busyO x.fs 0) pick = some n) (hf : x.fs[n]? = some (some f)) : whoN x pick = some (n, f) := by
 unfold whoN
 simp only [hs, hn, hf]
 rw [if_neg (fun hh => by simp at hh)]
set_option maxHeartbeats 4000000 in
theorem rr_pick {i er rc ru sg x e sp hp} (h : RR er rc ru sg x e sp hp) (hI : RI i x) (hi : i ≤ 990) (pick : Int) :
    ∃ sg' e' sp' h2 lo, LL.call n_scan_Runner_Pick [.p ru 0, .i .i64 pick] sg sg.length = some (.t [(evN x pick).1, .b (evN x pick).2], sg', lo) ∧ RR er rc ru sg' (pickN x pick) e' sp' h2 ∧ Fr (ownN er rc ru e sp) (ownN er rc ru e' sp') sg sg' ∧ Tkn sg sg' lo := by
 have htk := hI.tk
 have B := c_engine_Busy e h.R.h6 sg er h.R.hr
 rw [h.R.busy] at B
 have hcs : x.cs.length ≤ 1000 := by have := hI.cs; omega
 have hru := h.hru
 have hrc := h.hrc
 have w1 : IntKind.i64.wrap ((x.tk : Int) + 1) = (x.tk : Int) + 1 := wrap64 (by omega)
 have hbl : (busyO x.fs 0).length ≤ 6 := by rw [← h.R.f6]; exact busyO_len _ _
 have htake : ∀ l : List (List D), l.length = sg.length → List.take sg.length l = l := fun l hl => List.take_of_length_le (by omega)
 cases hs : x.sc with
 | none =>
  have := h.sc_none hs
  subst this
  by_cases hb : busyO x.fs 0 = []
  ·have hw : whoN x pick = none := by unfold whoN; simp only [hs, hb, pickL_nil]
   have P := c_history_Pick_none er rc e x.M x.fs x.cs x.ats sg h.R h.hrc h.dc hI.a6 hcs pick hb
   have he : evN x pick = (eEv 0 ⟨0, ⟨0, 0⟩, 0, 0⟩ ⟨false, ⟨0, 0⟩, 0⟩ false, false) := by unfold evN; simp only [hw, hs]
   have hx : pickN x pick = x := by unfold pickN; simp only [hw, hs]
   rw [he, hx]
   refine ⟨sg, e, none, hp, sg.length, ?_, h, .rfl' _ _, .inr rfl⟩
   simp [eRun, eFp] at hru
   simp [eRec] at hrc
   simp [eEv] at P
   refine wp_call e_scan_Runner_Pick rfl ?_
   simp [F_scan_Runner_Pick, hru, hrc, B, P, eEv]
  ·obtain ⟨n, f, hn, hf⟩ := pick_some hb pick
   have hw := who_one hs hn hf
   obtain ⟨sg1, e1, P, L, K1, K2⟩ := rr_pickE h hI (by omega) pick n hn f hf
   have he : evN x pick = (eEv n f.o (stepP x.k x.p x.M f).a (stepP x.k x.p x.M f).d, true) := by unfold evN; simp only [hw]
   have hx : pickN x pick = { pickE x n f with tk := x.tk + 1 } := by unfold pickN; simp only [hw]
   rw [he, hx]
   have T := K1.tick (x.tk + 1)
   refine ⟨_, e1, none, hp, sg.length, ?_, T.1, K2.trans T.2, .inr (by simp [L])⟩
   have hru1 := K1.hru
   simp only [pickE] at hru1
   generalize stepP x.k x.p x.M f = so at *
   have htk1 : ∀ l, List.take sg.length (sg1.set ru l) = sg1.set ru l := fun l => htake _ (by simp [L])
   simp [eRun, eFp] at hru hru1 ⊢
   simp [eRec] at hrc
   simp [eEv] at P
   refine wp_call e_scan_Runner_Pick rfl ?_
   simp [F_scan_Runner_Pick, hru, hrc, B, P, eEv, hru1, L, w1, htk1]
 | some s =>
  obtain ⟨q, rfl, hq, hq2⟩ := h.sc_some hs
  have T := h.tick (x.tk + 1)
  obtain ⟨sg1, hsg1⟩ : ∃ sg1, sg1 = sg.set ru (eRun rc (some q) hp ((x.tk + 1 : Nat) : Int)) := ⟨_, rfl⟩
  have L1 : sg1.length = sg.length := by rw [hsg1]; simp
  rw [← hsg1] at T
  have I := c_op_Into pick ((busyO x.fs 0).length + 1) (by omega) sg1
  rw [L1] at I
  have w2 : IntKind.i64.wrap (((busyO x.fs 0).length : Int) + 1) = ((busyO x.fs 0).length : Int) + 1 := wrap64 (by omega)
  have hru1 := T.1.hru
  have hrc1 := T.1.hrc
  by_cases hk : into pick ((busyO x.fs 0).length + 1) < (busyO x.fs 0).length
  ·have hb : busyO x.fs 0 ≠ [] := fun hh => by
    rw [hh] at hk
    have := into_rng pick (n := 1) (by omega)
    simp at hk; omega
   obtain ⟨n, f, hn, hf⟩ := pick_some hb (into pick ((busyO x.fs 0).length + 1))
   have hw := who_some hs hk hn hf
   obtain ⟨sg2, e2, P, L2, K1, K2⟩ := rr_pickE (x := { x with tk := x.tk + 1 }) T.1 hI.tk1 (by omega) (into pick ((busyO x.fs 0).length + 1)) n hn f hf
   have he : evN x pick = (eEv n f.o (stepP x.k x.p x.M f).a (stepP x.k x.p x.M f).d, true) := by unfold evN; simp only [hw]
   have hx : pickN x pick = { pickE x n f with tk := x.tk + 1 } := by unfold pickN; simp only [hw]
   rw [he, hx]
   refine ⟨sg2, e2, some q, hp, sg.length, ?_, K1, T.2.trans K2, .inr (by omega)⟩
   simp only at P
   rw [L1] at P
   generalize stepP x.k x.p x.M f = so at *
   have htk2 : List.take sg.length sg2 = sg2 := htake _ (by omega)
   simp [eRun, eFp] at hru hru1 hsg1
   simp [eRec] at hrc hrc1
   simp [eEv] at P
   refine wp_call e_scan_Runner_Pick rfl ?_
   simp [F_scan_Runner_Pick, hru, hrc, B, w1, w2, ← hsg1, I, hk, hru1, L1, P, eEv, htk2]
  ·have hw := who_none hs hk
   obtain ⟨sg2, e2, sp2, h2, lo, P, K1, K2, K3⟩ := rr_step (x := { x with tk := x.tk + 1 }) T.1 hI.tk1 (by omega) hs (busyO x.fs 0).length
   have he : evN x pick = (.a [.i .i64 (-1), .i .i64 0, .f .f64 0, .i .i64 0, .i .i64 0, .i .i64 0, .b false, .b false, .f .f64 0, .i .i64 0, .i .i64 0], true) := by unfold evN; simp only [hw, hs]
   have hx : pickN x pick = { stepN x s (busyO x.fs 0).length with tk := x.tk + 1 } := by unfold pickN; simp only [hw, hs]
   rw [he, hx]
   have hx2 : stepN { x with tk := x.tk + 1 } s (busyO x.fs 0).length = { stepN x s (busyO x.fs 0).length with tk := x.tk + 1 } := by
    unfold stepN
    split
    ·rfl
    ·split
     ·rfl
     ·rfl
   rw [hx2] at K1
   have hTk : Tkn sg sg2 (min sg.length lo) := by
    rcases K3 with h1 | h1
    ·left; omega
    ·right; omega
   refine ⟨sg2, e2, sp2, h2, min sg.length lo, ?_, K1, T.2.trans K2, hTk⟩
   rw [L1] at P
   have htk2 : sg.length ≤ lo → List.take sg.length sg2 = sg2 := fun hh => hTk.tk rfl (by omega)
   simp [eRun, eFp] at hru hru1 hsg1
   simp [eRec] at hrc hrc1
   refine wp_call e_scan_Runner_Pick rfl ?_
   simp [F_scan_Runner_Pick, hru, hrc, B, w1, w2, ← hsg1, I, hk, hru1, L1, P]
   exact fun hh => htk2 (by omega)
end Go.AM

namespace Go.AM
def rn0 (k : Int) (p : Nat) : RnS := ⟨k, p, ⟨[], 0⟩, [none, none, none, none, none, none], false, 0, [], [0, 0, 0, 0, 0, 0], none, none, 0⟩
theorem c_scan_New (k p : Int) (sg : List (List D)) : LL.call n_scan_New [.i .i64 k, .i .i64 p] sg sg.length =
    if legal k p = 0 then some (.t [.p (sg.length + 3) 0, .i .i64 0], sg ++ [eMem ⟨[], 0⟩, eEng (newE k p.toNat sg.length), eRec (sg.length + 1) [] [0, 0, 0, 0, 0, 0], eRun (sg.length + 2) none none 0], sg.length)
    else some (.t [.nilp, .i .i64 (legal k p)], sg, sg.length) := by
 have N := c_engine_New k p sg
 by_cases h : legal k p = 0
 ·rw [if_pos h] at N ⊢
  obtain ⟨m, hm⟩ : ∃ m, m = eMem ⟨[], 0⟩ := ⟨_, rfl⟩
  obtain ⟨e, he⟩ : ∃ e, e = eEng (newE k p.toNat sg.length) := ⟨_, rfl⟩
  rw [← hm, ← he] at N ⊢
  have H := c_history_Of (sg.length + 1) (sg ++ [m, e])
  have S := c_scan_Of (sg.length + 2) (sg ++ [m, e] ++ [eRec (sg.length + 1) [] [0, 0, 0, 0, 0, 0]])
  simp at H S
  refine wp_call e_scan_New rfl ?_
  simp [F_scan_New, N, H, S]
 ·rw [if_neg h] at N ⊢
  have hb : (legal k p != 0) = true := by simp [h]
  refine wp_call e_scan_New rfl ?_
  simp [F_scan_New, N, hb]
theorem nn6 : ∀ (i : Nat) (q : Nat), ([none, none, none, none, none, none] : List (Option Nat))[i]? ≠ some (some q) := by
 intro i q h
 have : i = 0 ∨ i = 1 ∨ i = 2 ∨ i = 3 ∨ i = 4 ∨ i = 5 ∨ 6 ≤ i := by omega
 rcases this with rfl | rfl | rfl | rfl | rfl | rfl | h6 <;> first | (simp at h; done) | (rw [List.getElem?_eq_none (by simpa using h6)] at h; cases h)
theorem nf6 : ∀ (i : Nat) (q : FrR), ([none, none, none, none, none, none] : List (Option FrR))[i]? ≠ some (some q) := by
 intro i q h
 have : i = 0 ∨ i = 1 ∨ i = 2 ∨ i = 3 ∨ i = 4 ∨ i = 5 ∨ 6 ≤ i := by omega
 rcases this with rfl | rfl | rfl | rfl | rfl | rfl | h6 <;> first | (simp at h; done) | (rw [List.getElem?_eq_none (by simpa using h6)] at h; cases h)
theorem n06 : ∀ i : Nat, ([none, none, none, none, none, none] : List (Option Nat))[i]? = some none → ([none, none, none, none, none, none] : List (Option FrR))[i]? = some none := by
 intro i h
 have hi : i < 6 := (List.getElem?_eq_some_iff.1 h).1
 have : i = 0 ∨ i = 1 ∨ i = 2 ∨ i = 3 ∨ i = 4 ∨ i = 5 := by omega
 rcases this with rfl | rfl | rfl | rfl | rfl | rfl <;> rfl
theorem mi0 (k : Int) (i : Nat) : MI k i ⟨[], 0⟩ := by
 have z : ∀ i : Int, rdM ⟨[], 0⟩ i = zC := by intro i; simp [rdM]
 exact ⟨good_nil, by simp, fun j => by simp [z, zC]; exact (nb_le k i).1, fun _ i _ h => by simp [z, zC] at h⟩
theorem ri0 {k : Int} {p : Nat} (hl : legal k p = 0) : RI 0 (rn0 k p) :=
 ⟨hl, by simp [rn0], mi0 k 0, fun j f h => absurd h (nf6 j f), by simp [rn0], rfl, by simp [rn0], by simp [rn0], fun s h => by simp [rn0] at h, .inl rfl⟩
theorem rr0 (k : Int) (p : Nat) (sg : List (List D)) : RR (sg.length + 1) (sg.length + 2) (sg.length + 3) (sg ++ [eMem ⟨[], 0⟩, eEng (newE k p sg.length), eRec (sg.length + 1) [] [0, 0, 0, 0, 0, 0], eRun (sg.length + 2) none none 0]) (rn0 k p) (newE k p sg.length) none none := by
 have ho : ∀ y, own (sg.length + 1) (newE k p sg.length) y → y = sg.length + 1 ∨ y = sg.length := by
  rintro y (h | h | ⟨i, h⟩)
  ·exact .inl h
  ·exact .inr h
  ·exact absurd h (nn6 i y)
 refine ⟨⟨by simp, by simp [newE, rn0], rfl, rfl, fun i q h => absurd h (nn6 i q), n06, by simp [newE], fun i q h => absurd h (nn6 i q), fun i j q h => absurd h (nn6 i q)⟩, rfl, rfl, rfl, rfl, by simp [rn0], by simp [rn0], fun h => ?_, fun h => ?_, by omega, fun _ => rfl, fun q h => (nomatch h), fun _ => rfl, fun q h => (nomatch h)⟩
 ·rcases ho _ h with h | h <;> omega
 ·rcases ho _ h with h | h <;> omega
end Go.AM

namespace Go.AM
def chkM (P : Program) (t : TypeId) (nm : String) (f : FuncId) : Bool := match P.info? t with
 | some i => match i.methods.find? (·.name == nm) with
  | some m => m.path.toList.isEmpty && (match m.func with
   | some (g, true) => (match P.underlying t with | some (.pointer _) => g == f && decide (f < Q0) | _ => false)
   | some (g, false) => (match P.underlying t with
    | some (.pointer e) => decide (Q0 ≤ f) && g == f - Q0 && aggT P e == some false && szT P e == some 1
    | some _ => g == f && decide (f < Q0)
    | none => false)
   | none => false)
  | none => false
 | none => false
theorem wrap_ok (ts : Array TypeId) (t : TypeId) (a : Addr) (s1 s2 : String) : Builtin.ssaWrapNilChk_ ts t #[.pointer (some a), strVal s1, strVal s2] = pure (.pointer (some a)) := rfl
theorem meth_one {P : Program} {t nm f} (h : chkM P t nm f = true) :
    (f < Q0 → ∀ v w, (method (P.types.size + Made.depth) t v nm).run P w = .ok (f, v) w) ∧
    (Q0 ≤ f → ∀ b off u w, World.cell? w ⟨b, off, none⟩ = some u → (method (P.types.size + Made.depth) t (.pointer (some ⟨b, off, none⟩)) nm).run P w = .ok (f - Q0, u) w) := by
 unfold chkM at h
 split at h
 ·rename_i i hi
  split at h
  ·rename_i m hm
   simp only [Bool.and_eq_true] at h
   obtain ⟨hp, h⟩ := h
   have hp' : m.path.toList = [] := List.isEmpty_iff.1 hp
   obtain ⟨n, hn⟩ : ∃ n, P.types.size + Made.depth = n + 1 := ⟨P.types.size + 99, rfl⟩
   rw [hn]
   split at h
   ·rename_i g hg
    split at h
    ·rename_i e hu
     simp only [Bool.and_eq_true, beq_iff_eq, decide_eq_true_eq] at h
     obtain ⟨rfl, hf⟩ := h
     refine ⟨fun _ v w => ?_, fun hq => absurd hf (Nat.not_lt.2 hq)⟩
     simp [method, typeInfo, hi, hm, hp', follow, hg, receiverAt, underlying, hu, Place.get]
    ·cases h
   ·rename_i g hg
    split at h
    ·rename_i e hu
     simp only [Bool.and_eq_true, beq_iff_eq, decide_eq_true_eq] at h
     obtain ⟨⟨⟨hf, hgf⟩, ha⟩, hs⟩ := h
     refine ⟨fun hq => absurd hq (Nat.not_lt.2 hf), fun _ b off u w hc => ?_⟩
     have hrun := run_load' (P := P) (w := w) (t := e) (b := b) (off := off) (us := [u]) ha hs (.inr rfl) rfl (fun j v hj => by
      cases j with
      | zero => simp at hj; subst hj; simpa using hc
      | succ j => simp at hj)
     simp only [Instr.loadAt, Instr.sureAddr] at hrun
     have hpe : m.path = #[] := by simpa using hp
     simp at hrun
     simp [method, typeInfo, hi, hm, hp', hpe, follow, hg, receiverAt, underlying, hu, Place.get, wrap_ok, asAddr, hrun, hgf]
    ·rename_i d hne hu
     simp only [Bool.and_eq_true, beq_iff_eq, decide_eq_true_eq] at h
     obtain ⟨rfl, hf⟩ := h
     refine ⟨fun _ v w => ?_, fun hq => absurd hf (Nat.not_lt.2 hq)⟩
     simp [method, typeInfo, hi, hm, hp', follow, hg, receiverAt, underlying, hu, Place.get]
    ·cases h
   ·cases h
  ·cases h
 ·cases h
theorem nil_one {P : Program} {t nm f} (h : chkM P t nm f = true) : NilOK P t nm f := by
 intro hf v w
 unfold chkM at h
 split at h
 ·rename_i i hi
  split at h
  ·rename_i m hm
   simp only [Bool.and_eq_true] at h
   obtain ⟨hp, h⟩ := h
   have hp' : m.path.toList = [] := List.isEmpty_iff.1 hp
   obtain ⟨n, hn⟩ : ∃ n, P.types.size + Made.depth = n + 1 := ⟨P.types.size + 99, rfl⟩
   rw [hn]
   split at h
   ·rename_i g hg
    simp [nilAhead, typeInfo, hi, hm, hp', followBlind, hg]
   ·rename_i g hg
    split at h
    ·rename_i e hu
     simp only [Bool.and_eq_true, beq_iff_eq, decide_eq_true_eq] at h
     exact absurd hf (Nat.not_lt.2 h.1.1.1)
    ·rename_i d hne hu
     simp [nilAhead, typeInfo, hi, hm, hp', followBlind, hg, underlying, hu]
     cases d <;> first | (exfalso; exact hne _ rfl) | rfl
    ·cases h
   ·cases h
  ·cases h
 ·cases h
theorem meth_all {P : Program} {T : List (TypeId × String × FuncId)} (h : T.all (fun p => chkM P p.1 p.2.1 p.2.2) = true) :
    MethOK P (fun t nm => (T.find? fun p => p.1 == t && p.2.1 == nm).map (·.2.2)) := by
 intro t nm f hf
 simp only [Option.map_eq_some_iff] at hf
 obtain ⟨⟨t', nm', f'⟩, h1, rfl⟩ := hf
 have h2 := List.find?_some h1
 simp only [Bool.and_eq_true, beq_iff_eq] at h2
 obtain ⟨rfl, rfl⟩ := h2
 have h3 := List.all_eq_true.1 h _ (List.mem_of_find?_eq_some h1)
 exact ⟨(meth_one h3).1, (meth_one h3).2, nil_one h3⟩
end Go.AM

namespace Go.AM
open Go.Proofs
set_option maxRecDepth 100000
theorem fol : Try.prog.follows .mixedOrders = true := by kernel_rfl
theorem tab_ok : tab.all (fun p => chkFn Try.prog EE.fbits EE.frb (rid p.1) p.2) = true := by kernel_rfl
theorem look_in {α : Type} {k : Nat} {x : α} : ∀ {l : List (Nat × α)}, look k l = some x → (k, x) ∈ l
 | (j, y) :: r, h => by
  simp only [look] at h
  split at h
  ·rename_i e; cases h; subst e; simp
  ·exact List.mem_cons_of_mem _ (look_in h)
theorem libF : LibF Try.prog EE := fun _ _ _ h => nomatch h
theorem env_ok : EnvOK Try.prog EE := ⟨fun f af h => List.all_eq_true.1 tab_ok (f, af) (look_in h), libF, fun _ _ _ _ _ h => nomatch h⟩
theorem meth_ok : methL.all (fun p => chkM Try.prog p.1 p.2.1 p.2.2) = true := by kernel_rfl
theorem lib_ok : Lib Try.prog EE.fbits EE.frb EE.meth where
 bits := fun f h n w => by cases h; rfl
 frb := fun f h n w => by cases h; rfl
 meth := meth_all meth_ok
end Go.AM

namespace Go.AM
open Go.Proofs
set_option maxRecDepth 100000 in
theorem c_law16_awake : LL.call n_c_law16_awake [] [] 0 = some (.b true, [], 0) := lim_call.2 ⟨100, by kernel_rfl⟩
structure Gt (x : RnS) (c : Bool) : Prop where
 cl : x.cl = (c || quietN x)
 sc : ∀ s, x.sc = some s → s.quiet = true → s.closed = c
theorem Gt.beg {x c} (h : Gt x c) (t : Int) (o : Rw) : Gt (begN x t o).1 c := by
 unfold begN
 split
 ·exact ⟨h.cl, h.sc⟩
 ·exact h
theorem stepS_q (k : Int) (p : Nat) (M : Mem) (s : Scn) (busy : Int) : (stepS k p M s busy).1.quiet = s.quiet ∧ (stepS k p M s busy).1.closed = s.closed := by
 unfold stepS
 repeat' split
 all_goals exact ⟨rfl, rfl⟩
theorem Gt.pick {i x c} (hI : RI i x) (h : Gt x c) (pick : Int) : Gt (pickN x pick) c := by
 unfold pickN
 split
 ·exact ⟨h.cl, h.sc⟩
 ·cases hs : x.sc with
  | none => exact h
  | some s =>
   have h1 := h.cl
   have h2 := h.sc s hs
   have hq : quietN x = s.quiet := by unfold quietN; rw [hs]
   rw [hq] at h1
   have S := hI.sc s hs
   simp only
   unfold stepN
   split
   ·obtain ⟨a, b⟩ := stepS_q x.k x.p x.M s (busyO x.fs 0).length
    exact ⟨by simp only [quietN, a]; exact h1, fun s' e hq' => by injection e with e; subst e; rw [b]; exact h2 (by rw [← a]; exact hq')⟩
   ·split
    ·refine ⟨?_, fun s' e => (nomatch e)⟩
     simp only [quietN, Bool.or_false]
     cases hqt : s.quiet with
     | false => rw [hqt] at h1; simp [h1]
     | true =>
      rw [h2 hqt]
      rw [hqt] at h1
      cases c <;> simp [h1]
    ·rename_i h0 h1'
     have h2' : (stepS x.k x.p x.M s (busyO x.fs 0).length).2 = 2 := by rcases stepS_012 x.k x.p x.M s (busyO x.fs 0).length with e | e | e; exact absurd e h0; exact absurd e h1'; exact e
     obtain ⟨_, hnq, _⟩ := stepS_two S h2'
     rw [hnq, Bool.or_false] at h1
     unfold failS
     by_cases hl : s.left = 1
     ·rw [if_pos hl, if_pos hl]
      exact ⟨by simp [quietN], fun s' e _ => by injection e with e; subst e; exact h1⟩
     ·rw [if_neg hl, if_neg hl]
      exact ⟨by simp [quietN, hnq, h1], fun s' e hq' => by injection e with e; subst e; simp [hnq] at hq'⟩
theorem Gt.gate {x c} (h : Gt x c) (b : Bool) : Gt (gatN x b) b := by
 cases hs : x.sc with
 | none => rw [gatN_none hs]; exact ⟨by simp [quietN, hs], fun s e => by simp [hs] at e⟩
 | some s =>
  cases hq : s.quiet with
  | true =>
   rw [gatN_q hs hq]
   have h1 := h.cl
   rw [quietN, hs] at h1
   simp only [hq, Bool.or_true] at h1
   exact ⟨by simp [quietN, hq, h1], fun s' e _ => by injection e with e; subst e; rfl⟩
  | false =>
   rw [gatN_n hs hq]
   exact ⟨by simp [quietN, hs, hq], fun s' e hq' => by simp only [hs] at e; injection e with e; subst e; rw [hq] at hq'; cases hq'⟩
theorem Gt.start {x c} (h : Gt x c) (n : Int) : Gt (startN x n).1 c := by
 unfold startN
 split
 ·exact h
 ·split
  ·exact h
  ·rename_i hb
   have hs : x.sc = none := by cases e : x.sc <;> simp [e] at hb ⊢
   have h1 := h.cl
   rw [quietN, hs] at h1
   exact ⟨by simp [quietN]; simpa using h1, fun s' e hq' => by injection e with e; subst e; cases hq'⟩
theorem Gt.take {x c} (h : Gt x c) : Gt { x with sh := none } c := ⟨h.cl, h.sc⟩
theorem pickN_k (x : RnS) (pick : Int) : (pickN x pick).k = x.k := by
 unfold pickN stepN
 split
 ·rfl
 ·split
  ·rfl
  ·simp only
   split
   ·rfl
   ·split <;> rfl
theorem gatN_k (x : RnS) (b : Bool) : (gatN x b).k = x.k := by
 unfold gatN
 split
 ·rfl
 ·split <;> rfl
theorem startN_k (x : RnS) (n : Int) : (startN x n).1.k = x.k := by
 unfold startN
 split
 ·rfl
 ·split <;> rfl
theorem checkO_12 (k o v : Int) : checkO k o v ≠ 12 := by
 unfold checkO
 repeat' split
 all_goals omega
theorem beg_12 {x : RnS} (t : Int) (ht : 0 ≤ t ∧ t < 4) (o : Rw) : ((begN x t o).2 = 12) ↔ x.cl = true := by
 have h := checkO_12 x.k o.k o.x.v
 unfold begN begO
 rw [if_neg (show ¬ (t < 0 ∨ 6 ≤ t) by omega)]
 cases x.cl with
 | true => simp
 | false =>
  simp only [Bool.false_eq_true, if_false, iff_false]
  by_cases h1 : checkO x.k o.k o.x.v = 0
  ·simp only [h1, ne_eq, not_true, if_false]
   by_cases h2 : (x.fs[t.toNat]?).join.isSome = true
   ·simp [h2]
   ·simp [h2]
  ·simp only [ne_eq, h1, not_false_eq_true, if_true, if_false]
   exact h
theorem and3 (n : Int) : bits .and .i64 n 3 = n % 4 := i64_mask 2 (by decide) n
set_option maxRecDepth 20000 in
set_option maxHeartbeats 8000000 in
theorem scanGate (kind param : Int) (acts : List Act) (hact : ∀ a ∈ acts, a.o.ok) :
    LL.call n_c_law16_ScanGate [.i .i64 kind, .i .i64 param, .l .z 8 (acts.map eAct)] [] 0 = some (.b true, [], 0) := by
 have hA := c_law16_awake
 have K := c_law12_Kind kind param []
 have hleg := legal_kind kind param
 have hkr := kindOf_le kind
 have hpr := paramOf_le kind param
 obtain ⟨k, hk⟩ : ∃ k, k = kindOf kind := ⟨_, rfl⟩
 obtain ⟨p, hp⟩ : ∃ p : Nat, paramOf kind param = p := ⟨(paramOf kind param).toNat, by omega⟩
 rw [← hk] at K hleg hkr
 rw [hp] at K hleg
 have NW := c_scan_New k p []
 rw [if_pos hleg] at NW
 have R0 := rr0 k p []
 have I0 := ri0 hleg
 obtain ⟨sg0, hsg0⟩ : ∃ sg0, sg0 = [eMem ⟨[], 0⟩, eEng (newE k p 0), eRec 1 [] [0, 0, 0, 0, 0, 0], eRun 2 none none 0] := ⟨_, rfl⟩
 simp only [List.length_nil, List.nil_append, Nat.zero_add, Int.toNat_natCast] at NW R0
 rw [← hsg0] at NW R0
 have hzz : ∀ l : List Act, D.zzs (l.map eAct) = l.map eAct := fun l => zzs_flat eAct l
 refine wp_call e_c_law16_ScanGate rfl ?_
 simp at K
 simp [F_c_law16_ScanGate, hA, K, NW, hzz]
 refine wc_lst (acts.take 150) (fun i (b : List (List D) × Bool) => ⟨[(0, .v (.i .i64 k)), (2, .v (.l .z 8 (acts.map eAct))), (7, .v (.p 3 0)), (9, .v (.b b.2)), (10, .v (.i .i64 i))], [], b.1, 0⟩) (fun i rest b => ∃ x e sp hp, RR 1 2 3 b.1 x e sp hp ∧ RI (2 * i) x ∧ Gt x b.2 ∧ x.k = k) (sg0, false) (by simp) ⟨_, _, _, _, R0, I0, ⟨by simp [rn0, quietN], fun s h => by simp [rn0] at h⟩, rfl⟩ ?_ ?_
 ·rintro i a rest ⟨sg, c⟩ hi hx ⟨x, e, sp, hp', T, I, G, hxk⟩ ih
  simp only at T I G ih ⊢
  have hi150 : i < 150 := by simp at hi; omega
  have hia : i < acts.length := by simp at hi; omega
  have hx' : acts[i] = a := by rw [← hx]; simp
  have hao := hact a (by rw [← hx']; exact List.getElem_mem hia)
  have hii : (i : Int) < acts.length := by omega
  have hi6 : (i : Int) < 150 := by omega
  have w1 : IntKind.i64.wrap ((i : Int) + 1) = i + 1 := wrap64 (by omega)
  have e1 : (a.k % 256).tmod 21 = a.k % 256 % 21 := tmod_nn _ _ (by omega)
  obtain ⟨q, hq⟩ : ∃ q, q = a.k % 256 % 21 := ⟨_, rfl⟩
  rw [← hq] at e1
  have hql : 0 ≤ q ∧ q < 21 := by omega
  have w2 : IntKind.i64.wrap q = q := wrap64 (by omega)
  have hru := T.hru
  have fin : ∀ (sg1 : List (List D)) (c1 : Bool) (x1 : RnS) e1 sp1 hp1, RR 1 2 3 sg1 x1 e1 sp1 hp1 → RI (2 * (i + 1)) x1 → Gt x1 c1 → x1.k = k →
      (∃ z1 z2 z3, sg1[3]? = some [.p 2 0, z1, z2, z3]) ∧ (∃ l, sg1[2]? = some (.p 1 0 :: l)) ∧ LL.call n_scan_Runner_Quiet [.p 3 0] sg1 sg1.length = some (.b (quietN x1), sg1, sg1.length) ∧
      LL.call n_engine_Engine_Closed [.p 1 0] sg1 sg1.length = some (.b (c1 || quietN x1), sg1, sg1.length) := by
   intro sg1 c1 x1 e1 sp1 hp1 T1 I1 G1 _
   refine ⟨⟨_, _, _, T1.hru⟩, ⟨_, T1.hrc⟩, rr_quiet T1, ?_⟩
   rw [← G1.cl]; exact rr_closed T1
  by_cases hq3 : q < 3
  ·obtain ⟨sg1, e', lo, B1, T1, F1, K1⟩ := rr_beg T I (by omega) (a.t % 4) (ownO k a.o)
   have I1 : RI (2 * (i + 1)) (begN x (a.t % 4) (ownO k a.o)).1 := (I.beg _ _ (by rw [hxk]; exact fi_begin hkr _ hao)).mono
   have G1 := G.beg (a.t % 4) (ownO k a.o)
   have hk1 : (begN x (a.t % 4) (ownO k a.o)).1.k = k := by unfold begN; split <;> exact hxk
   have E := beg_12 (x := x) (a.t % 4) (by omega) (ownO k a.o)
   have hcl : (begN x (a.t % 4) (ownO k a.o)).1.cl = x.cl := by unfold begN; split <;> rfl
   rw [← hcl, G1.cl] at E
   obtain ⟨⟨z1, z2, z3, f1⟩, ⟨zl, f2⟩, f3, f4⟩ := fin sg1 c _ _ _ _ T1 I1 G1 hk1
   have ih := ih (sg1, c) ⟨_, _, _, _, T1, I1, G1, hk1⟩
   have O1 := c_law06_Own k hkr a.o sg
   generalize quietN (begN x (a.t % 4) (ownO k a.o)).1 = qn at *
   generalize (begN x (a.t % 4) (ownO k a.o)).2 = er at *
   have hE : (er == 12) = (c || qn) := by
    cases h : (c || qn) with
    | true => rw [h] at E; simp [E.2 rfl]
    | false => rw [h] at E; simp; intro h0; have := E.1 h0; cases this
   simp [eRun] at hru
   simp [eRw, eOp] at O1 B1
   simp at ih
   cases c
   ·simp at hE f4
    simp [hii, hi6, hia, hx', eAct, i64_255, and3, e1, w2, hq3, hru, O1, B1, hE, f1, f2, f3, f4, w1]
    simpa using ih
   ·simp at hE f4
    simp [hii, hi6, hia, hx', eAct, i64_255, and3, e1, w2, hq3, hru, O1, B1, hE, f1, f2, f3, f4, w1]
    simpa using ih
  ·by_cases hq17 : q < 17
   ·obtain ⟨sg1, e', sp1, h2, lo, P1, T1, F1, K1⟩ := rr_pick T I (by omega) a.p
    have I1 := I.pick (by omega) a.p
    have G1 := G.pick I a.p
    have hk1 : (pickN x a.p).k = k := by rw [pickN_k]; exact hxk
    generalize (evN x a.p).1 = ev at *
    generalize (evN x a.p).2 = ok at *
    generalize pickN x a.p = x1 at *
    cases hs : x1.sh with
    | none =>
     obtain ⟨KK, P2⟩ := rr_take_none T1 hs
     have I2 : RI (2 * (i + 1)) x1 := I1.mono
     obtain ⟨⟨z1, z2, z3, f1⟩, ⟨zl, f2⟩, f3, f4⟩ := fin sg1 c _ _ _ _ T1 I2 G1 hk1
     have ih := ih (sg1, c) ⟨_, _, _, _, T1, I2, G1, hk1⟩
     generalize quietN x1 = qn at *
     simp at ih
     cases c
     ·simp at f4
      simp [hii, hi6, hia, hx', eAct, i64_255, e1, w2, hq3, hq17, P1, P2, f1, f2, f3, f4, w1]
      simpa using ih
     ·simp at f4
      simp [hii, hi6, hia, hx', eAct, i64_255, e1, w2, hq3, hq17, P1, P2, f1, f2, f3, f4, w1]
      simpa using ih
    | some s =>
     obtain ⟨sg2, P2, T2, F2⟩ := rr_take T1 hs
     have I2 : RI (2 * (i + 1)) { x1 with sh := none } := I1.take
     have G2 := G1.take
     obtain ⟨⟨z1, z2, z3, f1⟩, ⟨zl, f2⟩, f3, f4⟩ := fin sg2 c _ _ _ _ T2 I2 G2 hk1
     have ih := ih (sg2, c) ⟨_, _, _, _, T2, I2, G2, hk1⟩
     generalize quietN { x1 with sh := none } = qn at *
     simp at ih
     cases c
     ·simp at f4
      simp [hii, hi6, hia, hx', eAct, i64_255, e1, w2, hq3, hq17, P1, P2, f1, f2, f3, f4, w1]
      simpa using ih
     ·simp at f4
      simp [hii, hi6, hia, hx', eAct, i64_255, e1, w2, hq3, hq17, P1, P2, f1, f2, f3, f4, w1]
      simpa using ih
   ·by_cases hq19 : q < 19
    ·by_cases hc : q = 17
     ·subst hc
      obtain ⟨sg1, e', P1, T1, F1⟩ := rr_close T
      have I1 : RI (2 * (i + 1)) (gatN x true) := (I.gate true).mono
      have G1 := G.gate true
      have hk1 : (gatN x true).k = k := by rw [gatN_k]; exact hxk
      obtain ⟨⟨z1, z2, z3, f1⟩, ⟨zl, f2⟩, f3, f4⟩ := fin sg1 true _ _ _ _ T1 I1 G1 hk1
      have ih := ih (sg1, true) ⟨_, _, _, _, T1, I1, G1, hk1⟩
      simp at ih f4
      simp [hii, hi6, hia, hx', eAct, i64_255, e1, w2, P1, f1, f2, f3, f4, w1]
      simpa using ih
     ·have hb : (q == 17) = false := by simp [hc]
      obtain ⟨sg1, e', P1, T1, F1⟩ := rr_open T
      have I1 : RI (2 * (i + 1)) (gatN x false) := (I.gate false).mono
      have G1 := G.gate false
      have hk1 : (gatN x false).k = k := by rw [gatN_k]; exact hxk
      obtain ⟨⟨z1, z2, z3, f1⟩, ⟨zl, f2⟩, f3, f4⟩ := fin sg1 false _ _ _ _ T1 I1 G1 hk1
      have ih := ih (sg1, false) ⟨_, _, _, _, T1, I1, G1, hk1⟩
      simp at ih f4
      simp [hii, hi6, hia, hx', eAct, i64_255, e1, w2, hq3, hq17, hq19, hb, P1, f1, f2, f3, f4, w1]
      simpa using ih
    ·have e2 : (a.p % 256).tmod 2 = a.p % 256 % 2 := tmod_nn _ _ (by omega)
     obtain ⟨n, hn⟩ : ∃ n, n = 1 + a.p % 2 := ⟨_, rfl⟩
     have w3 : IntKind.i64.wrap (1 + a.p % 2) = n := by rw [hn]; exact wrap64 (by omega)
     obtain ⟨sg1, sp1, lo, P1, T1, F1, K1⟩ := rr_start T n
     have I1 : RI (2 * (i + 1)) (startN x n).1 := (I.start n).mono
     have G1 := G.start n
     have hk1 : (startN x n).1.k = k := by rw [startN_k]; exact hxk
     obtain ⟨⟨z1, z2, z3, f1⟩, ⟨zl, f2⟩, f3, f4⟩ := fin sg1 c _ _ _ _ T1 I1 G1 hk1
     have ih := ih (sg1, c) ⟨_, _, _, _, T1, I1, G1, hk1⟩
     simp at ih
     cases c
     ·simp at f4
      simp [hii, hi6, hia, hx', eAct, i64_255, e1, e2, w2, w3, hq3, hq17, hq19, P1, f1, f2, f3, f4, w1]
      simpa using ih
     ·simp at f4
      simp [hii, hi6, hia, hx', eAct, i64_255, e1, e2, w2, w3, hq3, hq17, hq19, P1, f1, f2, f3, f4, w1]
      simpa using ih
 ·rintro ⟨sg, c⟩ ⟨x, e, sp, hp', T, I, G, hxk⟩
  by_cases h150 : acts.length ≤ 150
  ·have e1 : ((min 150 acts.length : Nat) : Int) = acts.length := by omega
   simp [e1]
  ·have e1 : ((min 150 acts.length : Nat) : Int) = 150 := by omega
   have e2 : (150 : Int) < acts.length := by omega
   simp [e1, e2]
def args_ScanGate : List (Bool × Ty) := [(false, .i .i64), (false, .i .i64), (false, .l 8 true tAct)]
theorem args_ScanGate_ok : tyA Try.prog [3, 3, 22] = some args_ScanGate := by kernel_rfl
theorem law_ScanGate (ds : List D) (h : FitA args_ScanGate ds) : ∃ sg lo, (lim EE).call n_c_law16_ScanGate ds [] 0 = some (.b true, sg, lo) := by
 cases h with
 | c h1 k =>
 obtain ⟨n1, rfl, w1⟩ := fits_i h1
 cases k with
 | c h2 k =>
 obtain ⟨n2, rfl, w2⟩ := fits_i h2
 cases k with
 | c h3 k =>
 cases h3 with
 | l sz agg e xs hl hx ha =>
 obtain ⟨is, rfl, hi⟩ := fits_acts xs hx (by simpa using ha)
 cases k
 exact ⟨[], 0, scanGate n1 n2 is hi⟩
end Go.AM
