/- Lemmas: an abstract machine over the loaded program, proved sound against the model once; what the program's functions compute. -/
import Derived.Orders
import Derived.KernelRfl
import Derived.Laws.BitsLemmas
import Derived.Laws.Rows
import Derived.Laws.AppendOwn
import Derived.Laws.Cells
import Derived.Laws.Entries
import Derived.Laws.StructEq
import Derived.Laws.Externs
import Derived.WideLaws
import Derived.ChangeKeysEq
import Derived.Great.BuildSlice
import Derived.Laws.MakeOwn
import Derived.Laws.IdiomCopy
set_option linter.all false
namespace Go.AM
def Q0:Nat:=1000000
inductive K where
 | z | n | o | x
 deriving DecidableEq,Repr,Inhabited
inductive D where
 | b (v:Bool)
 | i (k:IntKind) (n:Int)
 | f (k:FloatKind) (bits:Nat)
 | s (v:ByteArray)
 | nilp
 | p (r off:Nat)
 | q (cs:List D) (off:Nat)
 | l (k:K) (sz:Nat) (xs:List D)
 | a (cs:List D)
 | t (ds:List D)
 | ic (t:TypeId) (v:D)
 | bm (nm:String) (v:D)
 | nili
 | fn (f:FuncId) (caps:List D)
 | nilf
 | mp
 | mo (r:Nat)
 | u
 | w
 deriving Inhabited
def D.cells:D → List D
 | .a cs=>cs
 | d=>[d]
mutual
def D.cp:D → Option D
 | .l .x _ _=>some .w
 | .l .n sz xs=>some (.l .n sz xs)
 | .l _ sz xs=>some (.l .z sz xs)
 | .a cs=>(D.cps cs).map .a
 | .t cs=>(D.cps cs).map .t
 | .w=>none
 | d=>some d
def D.cps:List D → Option (List D)
 | [] => some []
 | d :: ds=>match D.cp d,D.cps ds with
  | some d',some ds'=>some (d' :: ds')
  | _,_=>none
end
mutual
def D.fz:D → D
 | .l .x sz xs=>.l .z sz (D.fzs xs)
 | .l .n sz xs=>.l .n sz xs
 | .l _ sz xs=>.l .z sz xs
 | .a cs=>.a (D.fzs cs)
 | .t cs=>.t (D.fzs cs)
 | d=>d
def D.fzs:List D → List D
 | [] => []
 | d :: ds=>D.fz d :: D.fzs ds
end
mutual
def D.fo:D → D
 | .l .x sz xs=>.l .o sz (D.fzs xs)
 | .a cs=>.a (D.fos cs)
 | .t cs=>.t (D.fos cs)
 | d=>d
def D.fos:List D → List D
 | [] => []
 | d :: ds=>D.fo d :: D.fos ds
end
mutual
def D.zz:D → D
 | .l _ sz xs=>.l .z sz (D.zzs xs)
 | .a cs=>.a (D.zzs cs)
 | .t cs=>.t (D.zzs cs)
 | d=>d
def D.zzs:List D → List D
 | [] => []
 | d :: ds=>D.zz d :: D.zzs ds
end
mutual
def D.nr (n:Nat):D → Bool
 | .p r _=>r < n
 | .mo r=>r < n
 | .q cs _=>D.nrs n cs
 | .l _ _ xs=>D.nrs n xs
 | .a cs=>D.nrs n cs
 | .t ds=>D.nrs n ds
 | .ic _ v=>D.nr n v
 | .bm _ v=>D.nr n v
 | .fn _ cs=>D.nrs n cs
 | _=>true
def D.nrs (n:Nat):List D → Bool
 | [] => true
 | d :: ds=>D.nr n d && D.nrs n ds
end
mutual
def D.beq:D → D → Bool
 | .b x,.b y=>x == y
 | .i k x,.i j y=>k == j && x == y
 | .f k x,.f j y=>k == j && x == y
 | .s x,.s y=>x == y
 | .nilp,.nilp=>true
 | .p r o,.p r' o'=>r == r' && o == o'
 | .q cs o,.q cs' o'=>D.beqs cs cs' && o == o'
 | .l k sz xs,.l k' sz' xs'=>k == k' && sz == sz' && D.beqs xs xs'
 | .a cs,.a cs'=>D.beqs cs cs'
 | .t cs,.t cs'=>D.beqs cs cs'
 | .ic ty v,.ic ty' v'=>ty == ty' && D.beq v v'
 | .bm nm v,.bm nm' v'=>nm == nm' && D.beq v v'
 | .nili,.nili=>true
 | .fn g cs,.fn g' cs'=>g == g' && D.beqs cs cs'
 | .nilf,.nilf=>true
 | .mp,.mp=>true
 | .mo r,.mo r'=>r == r'
 | .u,.u=>true
 | .w,.w=>true
 | _,_=>false
def D.beqs:List D → List D → Bool
 | [],[] => true
 | d :: ds,e :: es=>D.beq d e && D.beqs ds es
 | _,_=>false
end
inductive Pl where
 | ob (k off:Nat)
 | gb (r off:Nat)
 deriving DecidableEq,Inhabited
inductive Q where
 | ptr (k off:Nat)
 | hdr (k:Nat)
 | hd (pl:Pl)
 | el (pl:Pl) (ix fo:Nat)
 deriving DecidableEq,Inhabited
inductive R where
 | v (d:D)
 | q (q:Q)
 deriving Inhabited
structure St where
 fr:List (Nat × R)
 ob:List (Nat × List D)
 sg:List (List D)
 lo:Nat
 deriving Inhabited
def look {α : Type} (k:Nat):List (Nat × α) → Option α
 | [] => none
 | (j,x) :: r=>if j=k then some x else look k r
def drp {α : Type} (k:Nat):List (Nat × α) → List (Nat × α)
 | [] => []
 | (j,x) :: r=>if j=k then drp k r else (j,x) :: drp k r
inductive X where
 | t (n:Nat)
 | k (n:Nat)
 | c (d:D)
 deriving Inhabited
inductive M where
 | cp | tk | hd
 deriving DecidableEq,Inhabited
inductive Cv where
 | int (k:IntKind)
 | same
 | bytes
 | str
 | mark
 deriving DecidableEq,Inhabited
inductive Ec where
 | bo | it | fl | st | pt | ni | cl
 deriving DecidableEq,Inhabited
inductive O where
 | mv (x:X)
 | pick (c a b:X)
 | al (z:List D)
 | ag (z:List D)
 | bx (x:X)
 | bg (x:X)
 | bd (z:List D) (ps:List (Nat × Nat × X))
 | bs (sz n:Nat) (z:D) (ps:List (Nat × X))
 | ld (agg:Bool) (n:Nat) (m:M) (x:X)
 | lda (n:Nat) (x:X)
 | st (n:Nat) (x y:X)
 | nc (x:X)
 | bin (op:BinOp) (x y:X)
 | eq (neg:Bool) (c:Ec) (x y:X)
 | eqa (neg:Bool) (cs:List Ec) (x y:X)
 | un (op:UnOp) (x:X)
 | cv (c:Cv) (x:X)
 | mi (t:TypeId) (x:X)
 | mf (f:FuncId) (xs:List X)
 | mm (nm:String) (x:X)
 | ms (sz bytes:Nat) (z:D) (x y:X)
 | ss (x:X) (lo hi:Option X)
 | sl (sz:Nat) (x:X) (lo hi mx:Option X)
 | fa (off:Nat) (x:X)
 | fd (agg:Bool) (off n:Nat) (x:X)
 | ia (sz:Nat) (len:Option Nat) (x y:X)
 | ixs (x y:X)
 | ixa (agg:Bool) (sz len:Nat) (x y:X)
 | ex (tk:Bool) (n slot:Nat)
 | len (str:Bool) (x:X)
 | app (sz bytes:Nat) (x y:X)
 | apps (x y:X)
 | cpy (sz:Nat) (x y:X)
 | srt (f g:FuncId) (x:X)
 | mx (big:Bool) (xs:List X)
 | call (f:FuncId) (xs:List X)
 | callp (f:FuncId) (xs:List X)
 | callr (f:FuncId) (xs:List X) (x:X)
 | callv (x:X) (xs:List X)
 | inv (nm:String) (x:X) (xs:List X)
 | bits (x:X)
 | frbits (x:X)
 | ta (t:TypeId) (x:X)
 | mkm
 | mlk (ok str:Bool) (z:D) (x y:X)
 | mup (str:Bool) (x y v:X)
 | mln (x:X)
 deriving Inhabited
inductive Gh where
 | fz (k:Nat)
 | zz (k:Nat)
 | fzo (k:Nat)
 | thaw (k:Nat)
 | unth (k:Nat)
 deriving Inhabited
structure I where
 dst:Option Nat
 gd:Option (Nat × Bool)
 op:O
 un:List Nat:=[]
 fz:Nat:=0
 deriving Inhabited
inductive C where
 | skip
 | reg (gs:List Gh) (ops:List I) (dr:Bool) (ls:List Nat) (os:List Nat)
 | seq (a b:C)
 | cond (x:Nat) (a b:C)
 | blk (n:Nat) (a:C)
 | loop (a:C)
 | exit (n:Nat)
 | ret
 deriving Inhabited
structure F where
 np:Nat
 res:List (Sum Nat (Nat × Bool × Nat))
 body:C
 deriving Inhabited
inductive Rs where
 | n (s:St)
 | x (id:Nat) (s:St)
 | r (s:St)
 deriving Inhabited
structure Or where
 call:FuncId → List D → List (List D) → Nat → Option (D × List (List D) × Nat)
 loop:C → St → Option Rs
 srt:FuncId → FuncId → Nat → List D → Option (List D)
end Go.AM

namespace Go.AM
def sub (cs:List D) (off n:Nat):Option (List D):=if off + n ≤ cs.length then some ((cs.drop off).take n) else none
def ovr (cs:List D) (off:Nat) (ds:List D):List D:=cs.take off ++ ds ++ cs.drop (off + ds.length)
def ofc (agg:Bool) (cs:List D):Option D:=if agg then some (.a cs) else match cs with | [d] => some d | _=>none
def rec_ (d:D) (cs:List D):Option D:=match d with
 | .a _=>some (.a cs)
 | _=>match cs with | [c] => some c | _=>none
def Q.at (pl:Pl):Q → Bool
 | .hd p=>p == pl
 | .el p _ _=>p == pl
 | _=>false
def Q.ofk (k:Nat):Q → Bool
 | .ptr j _=>j == k
 | .hdr j=>j == k
 | .hd (.ob j _)=>j == k
 | .el (.ob j _) _ _=>j == k
 | _=>false
def Q.bor (k:Nat):Q → Bool
 | .hdr j=>j == k
 | .hd (.ob j _)=>j == k
 | .el (.ob j _) _ _=>j == k
 | _=>false
def Q.gl:Q → Bool
 | .hd (.gb _ _)=>true
 | .el (.gb _ _) _ _=>true
 | _=>false
def Q.glx (g:Nat):Q → Bool
 | .hd (.gb r _)=>r != g
 | .el (.gb r _) _ _=>r != g
 | _=>false
def Q.dead (os:List Nat):Q → Bool
 | .ptr k _=>!os.contains k
 | .hdr k=>!os.contains k
 | .hd (.ob k _)=>!os.contains k
 | .el (.ob k _) _ _=>!os.contains k
 | _=>false
def forget (g:Q → Bool):List (Nat × R) → List (Nat × R)
 | [] => []
 | (k,.v d) :: r=>(k,.v d) :: forget g r
 | (k,.q x) :: r=>(k,if g x then .v .w else .q x) :: forget g r
def St.put (s:St) (dst:Option Nat) (r:R):St:=match dst with
 | some k=>{ s with fr:=(k,r) :: s.fr }
 | none=>s
def rx (x:X) (s:St):Option (R × St):=match x with
 | .c d=>some (.v d,s)
 | .t n=>match look n s.fr with
  | some (.v d)=>match d.cp with
   | some d'=>some (.v d',s)
   | none=>none
  | some (.q q)=>some (.q q,s)
  | none=>none
 | .k n=>match look n s.fr with
  | some (.v .w)=>none
  | some r=>some (r,{ s with fr:=drp n s.fr })
  | none=>none
def rxv (x:X) (s:St):Option (D × St):=match rx x s with
 | some (.v d,s')=>some (d,s')
 | _=>none
def stb:D → Bool
 | .u=>false
 | .w=>false
 | .t _=>false
 | _=>true
def stbs:List D → Bool
 | [] => true
 | d :: ds=>stb d && stbs ds
def rxs:List X → St → Option (List D × St)
 | [],s=>some ([],s)
 | x :: xs,s=>match rxv x s with
  | some (d,s')=>match rxs xs s' with
   | some (ds,s'')=>some (d :: ds,s'')
   | none=>none
  | none=>none
def St.at (s:St):Pl → Option D
 | .ob k off=>match look k s.ob with
  | some cs=>cs[off]?
  | none=>none
 | .gb r off=>match s.sg[r]? with
  | some cs=>cs[off]?
  | none=>none
def St.setAt (s:St) (pl:Pl) (d:D):St:=match pl with
 | .ob k off=>match look k s.ob with
  | some cs=>{ s with ob:=(k,cs.set off d) :: s.ob }
  | none=>s
 | .gb r off=>match s.sg[r]? with
  | some cs=>{ s with sg:=s.sg.set r (cs.set off d) }
  | none=>s
inductive Ac where
 | no
 | rl (k off n:Nat)
 | wl (k off n:Nat)
 | wk (k:Nat)
 | rb (k:Nat)
 | rg (r off n:Nat)
 | wg (r off n:Nat)
 | rgb (r:Nat)
 | re (k:Nat)
 | we (k:Nat)
 | reg (r:Nat)
 | weg
 | ag
 | cl (pure:Bool)
 | clx (r:Nat)
 deriving DecidableEq,Inhabited
def Ac.ok (a b:Ac):Bool:=match a with
 | .no=>true
 | .rl k o n=>match b with
  | .wl k' o' n'=>k != k' || o + n ≤ o' || o' + n' ≤ o
  | .wk k'=>k != k'
  | .we k'=>k != k' || n == 0
  | _=>true
 | .wl k o n=>match b with
  | .rl k' o' n'=>k != k' || o + n ≤ o' || o' + n' ≤ o
  | .wl k' o' n'=>k != k' || o + n ≤ o' || o' + n' ≤ o
  | .wk k'=>k != k'
  | .rb k'=>k != k'
  | .re k'=>k != k'
  | .we k'=>k != k'
  | _=>true
 | .wk k=>match b with
  | .rl k' _ _=>k != k'
  | .wl k' _ _=>k != k'
  | .wk k'=>k != k'
  | .rb k'=>k != k'
  | .re k'=>k != k'
  | .we k'=>k != k'
  | _=>true
 | .rb k=>match b with
  | .wl k' _ _=>k != k'
  | .wk k'=>k != k'
  | _=>true
 | .re k=>match b with
  | .wl k' _ _=>k != k'
  | .wk k'=>k != k'
  | .we k'=>k != k'
  | _=>true
 | .we k=>match b with
  | .rl k' _ n'=>k != k' || n' == 0
  | .wl k' _ _=>k != k'
  | .wk k'=>k != k'
  | .re k'=>k != k'
  | .we k'=>k != k'
  | _=>true
 | .rg r o n=>match b with
  | .wg r' o' n'=>r != r' || o + n ≤ o' || o' + n' ≤ o
  | .weg=>false
  | .ag=>false
  | .cl p=>p
  | _=>true
 | .wg r o n=>match b with
  | .rg r' o' n'=>r != r' || o + n ≤ o' || o' + n' ≤ o
  | .wg r' o' n'=>r != r' || o + n ≤ o' || o' + n' ≤ o
  | .rgb _=>false
  | .reg _=>false
  | .weg=>false
  | .ag=>false
  | .cl _=>false
  | .clx r'=>r == r'
  | _=>true
 | .rgb r=>match b with
  | .wg _ _ _=>false
  | .ag=>false
  | .cl _=>false
  | .clx r'=>r == r'
  | _=>true
 | .reg r=>match b with
  | .wg _ _ _=>false
  | .weg=>false
  | .ag=>false
  | .cl _=>false
  | .clx r'=>r == r'
  | _=>true
 | .weg=>match b with
  | .rg _ _ _=>false
  | .wg _ _ _=>false
  | .reg _=>false
  | .weg=>false
  | .ag=>false
  | .cl _=>false
  | .clx _=>false
  | _=>true
 | .ag=>match b with
  | .rg _ _ _=>false
  | .wg _ _ _=>false
  | .rgb _=>false
  | .reg _=>false
  | .weg=>false
  | .ag=>false
  | .cl _=>false
  | .clx _=>false
  | _=>true
 | .cl p=>match b with
  | .rg _ _ _=>p
  | .wg _ _ _=>false
  | .rgb _=>false
  | .reg _=>false
  | .weg=>false
  | .ag=>false
  | .cl _=>false
  | .clx _=>p
  | _=>true
 | .clx r=>match b with
  | .wg r' _ _=>r == r'
  | .rgb r'=>r == r'
  | .reg r'=>r == r'
  | .weg=>false
  | .ag=>false
  | .cl p=>p
  | _=>true
def Q.ac:Q → Ac
 | .ptr k _=>.rl k 0 0
 | .hdr k=>.rb k
 | .hd (.ob k _)=>.rb k
 | .el (.ob k _) _ _=>.rb k
 | .hd (.gb r _)=>.rgb r
 | .el (.gb r _) _ _=>.rgb r
def Pl.re:Pl → Ac
 | .ob k _=>.re k
 | .gb r _=>.reg r
def Pl.we:Pl → Ac
 | .ob k _=>.we k
 | .gb .. => .weg
def R.ac:R → Ac
 | .v _=>.no
 | .q x=>x.ac
def R.acE:R → Ac
 | .q (.hd pl)=>pl.re
 | .q (.hdr k)=>.re k
 | .q x=>x.ac
 | .v _=>.no
def R.fo:R → R
 | .v d=>.v d.fo
 | .q x=>.q x
def fzR:Nat → R → R
 | 0,r=>r
 | 1,r=>r.fo
 | _ + 2,.v d=>.v d.zz
 | _ + 2,.q x=>.q x
def R.fz:R → R
 | .v d=>.v d.fz
 | .q x=>.q x
def ldp (s:St) (agg:Bool) (n:Nat) (m:M) (r:R):Option (R × St × Ac):=match r with
 | .q (.ptr k off)=>match look k s.ob with
  | none=>none
  | some cs=>match sub cs off n with
   | none=>none
   | some ds=>match m with
    | .cp=>match D.cps ds with
     | some es=>(ofc agg es).map fun d=>(.v d,s,.rl k off n)
     | none=>none
    | .tk=>(ofc agg ds).map fun d=>(.v d,{ s with ob:=(k,ovr cs off (List.replicate n .w)) :: s.ob,fr:=forget (Q.bor k) s.fr },.wl k off n)
    | .hd=>some (.q (.hd (.ob k off)),s,.rb k)
 | .v (.p g off)=>match s.sg[g]? with
  | none=>none
  | some cs=>match sub cs off n with
   | none=>none
   | some ds=>match m with
    | .cp=>match D.cps ds with
     | some es=>(ofc agg es).map fun d=>(.v d,s,.rg g off n)
     | none=>none
    | .tk=>(ofc agg ds).map fun d=>(.v d,{ s with sg:=s.sg.set g (ovr cs off (List.replicate n .w)),fr:=forget Q.gl s.fr },.wg g off n)
    | .hd=>some (.q (.hd (.gb g off)),s,.rgb g)
 | .v (.q cs off)=>match sub cs off n with
  | none=>none
  | some ds=>(ofc agg ds).map fun d=>(.v d,s,.no)
 | .q (.el pl ix fo)=>match s.at pl with
  | some (.l .x sz xs)=>match xs[ix]? with
   | none=>none
   | some d=>match sub d.cells fo n with
    | none=>none
    | some ds=>match m with
     | .cp=>match D.cps ds with
      | some es=>(ofc agg es).map fun d=>(.v d,s,pl.re)
      | none=>none
     | .tk=>match rec_ d (ovr d.cells fo (List.replicate n .w)) with
      | some d'=>(ofc agg ds).map fun e=>(.v e,s.setAt pl (.l .x sz (xs.set ix d')),pl.we)
      | none=>none
     | .hd=>none
  | _=>none
 | _=>none
def auM (s:St) (r:R):M:=match (match r with
 | .q (.ptr k off)=>s.at (.ob k off)
 | .v (.p g off)=>s.at (.gb g off)
 | _=>none) with
 | some (.l .x _ _)=>.hd
 | _=>.cp
def St.loAt (s:St) (v:D):Pl → Nat
 | .gb g _=>if D.nr 0 v then s.lo else min s.lo g
 | .ob _ _=>s.lo
def stp (s:St) (n:Nat) (r:R) (v:D):Option (St × Ac):=if v.cells.length=n then match r with
 | .q (.ptr k off)=>match look k s.ob with
  | none=>none
  | some cs=>if off + n ≤ cs.length then some ({ s with ob:=(k,ovr cs off v.cells) :: s.ob,fr:=forget (Q.bor k) s.fr },.wl k off n) else none
 | .v (.p g off)=>match s.sg[g]? with
  | none=>none
  | some cs => if off + n ≤ cs.length then
      some ({ s with sg:=s.sg.set g (ovr cs off v.cells),fr:=forget Q.gl s.fr,lo:=if D.nr 0 v then s.lo else min s.lo g },.wg g off n)
   else none
 | .q (.el pl ix fo)=>match s.at pl with
  | some (.l .x sz xs)=>match xs[ix]? with
   | none=>none
   | some d => if fo + n ≤ d.cells.length then match rec_ d (ovr d.cells fo v.cells) with
       | some d'=>some ({ s.setAt pl (.l .x sz (xs.set ix d')) with lo:=s.loAt v pl },pl.we)
       | none=>none
    else none
  | _=>none
 | _=>none
 else none
def bini (op:BinOp) (k:IntKind) (x y:Int):Option D:=match op with
 | .add=>some (.i k (k.wrap (x + y)))
 | .sub=>some (.i k (k.wrap (x - y)))
 | .mul=>some (.i k (k.wrap (x * y)))
 | .quo=>if y=0 then none else some (.i k (k.wrap (x.tdiv y)))
 | .rem=>if y=0 then none else some (.i k (x.tmod y))
 | .and=>some (.i k (bits .and k x y))
 | .or=>some (.i k (bits .or k x y))
 | .xor=>some (.i k (bits .xor k x y))
 | .andNot=>some (.i k (bits .andNot k x y))
 | .eql=>some (.b (x == y))
 | .neq=>some (.b (x != y))
 | .lss=>some (.b (decide (x < y)))
 | .leq=>some (.b (decide (x ≤ y)))
 | .gtr=>some (.b (decide (x > y)))
 | .geq=>some (.b (decide (x ≥ y)))
 | _=>none
def binf (op:BinOp) (k:FloatKind) (x y:Nat):Option D :=
 let c:=k.format.order x y
 match op with
 | .eql=>some (.b (c == some .eq))
 | .neq=>some (.b (c != some .eq))
 | .lss=>some (.b (c == some .lt))
 | .leq=>some (.b (c == some .lt || c == some .eq))
 | .gtr=>some (.b (c == some .gt))
 | .geq=>some (.b (c == some .gt || c == some .eq))
 | _=>none
def bins (op:BinOp) (x y:ByteArray):Option D:=match op with
 | .add=>if x.size + y.size ≤ 9223372036854775807 then some (.s (x ++ y)) else none
 | .eql=>some (.b (x.toList == y.toList))
 | .neq=>some (.b !(x.toList == y.toList))
 | .lss=>some (.b (Op.bytesLess x.toList y.toList))
 | .leq=>some (.b (Op.bytesLess x.toList y.toList || x.toList == y.toList))
 | .gtr=>some (.b !(Op.bytesLess x.toList y.toList || x.toList == y.toList))
 | .geq=>some (.b !Op.bytesLess x.toList y.toList)
 | _=>none
def eq1 (c:Ec) (x y:D):Option Bool:=match c with
 | .bo=>match x,y with
  | .b x,.b y=>some (x == y)
  | _,_=>none
 | .it=>match x,y with
  | .i k x,.i k' y=>if k=k' then some (x == y) else none
  | _,_=>none
 | .fl=>match x,y with
  | .f k x,.f k' y=>if k=k' then some (Op.floatEq k x y) else none
  | _,_=>none
 | .st=>match x,y with
  | .s x,.s y=>some (x == y)
  | _,_=>none
 | .pt=>match x,y with
  | .nilp,.nilp=>some true
  | .nilp,.p .. => some false
  | .p ..,.nilp=>some false
  | .p r o,.p r' o'=>if r=r' ∧ o=o' then some true else none
  | _,_=>none
 | .ni=>match x,y with
  | .nili,.nili=>some true
  | .nili,.ic .. => some false
  | .ic ..,.nili=>some false
  | _,_=>none
 | .cl=>match x,y with
  | .nilf,.nilf=>some true
  | .nilf,.fn .. => some false
  | .fn ..,.nilf=>some false
  | _,_=>none
def eqs:List Ec → List D → List D → Option Bool
 | [],[],[] => some true
 | c :: cs,d :: ds,e :: es=>match eq1 c d e,eqs cs ds es with
  | some x,some y=>some (x && y)
  | _,_=>none
 | _,_,_=>none
def binv (op:BinOp) (x y:D):Option D:=match x,y with
 | .i k a,.i k' b=>match op with
  | .shl=>if b < 0 then none else some (.i k (k.wrap (a * 2 ^ (min b.toNat k.bits))))
  | .shr=>if b < 0 then none else some (.i k (a.fdiv (2 ^ (min b.toNat k.bits))))
  | _=>if k=k' then bini op k a b else none
 | .f k a,.f k' b=>if k=k' then binf op k a b else none
 | .s a,.s b=>bins op a b
 | _,_=>none
def unv (op:UnOp) (x:D):Option D:=match op,x with
 | .neg,.i k n=>some (.i k (k.wrap (0 - n)))
 | .xor,.i k n=>some (.i k (bits .xor k (if k.signed then -1 else k.max) n))
 | .not,.b t=>some (.b !t)
 | _,_=>none
def toBy:List D → Option (List UInt8)
 | [] => some []
 | .i .u8 n :: r=>(toBy r).map (UInt8.ofNat n.toNat :: ·)
 | _ :: _=>none
def ofBy (s:ByteArray):List D:=s.data.toList.map fun c=>.i .u8 c.toNat
def cvv (c:Cv) (x:D):Option D:=match c,x with
 | .int k,.i _ n=>some (.i k (k.wrap n))
 | .same,.s v=>some (.s v)
 | .bytes,.s v=>some (.l .x 1 (ofBy v))
 | .str,.l _ 1 xs=>(toBy xs).map fun l=>.s ⟨l.toArray⟩
 | .mark,.l .x 1 (x :: xs)=>some (.l .x 1 (x :: xs))
 | _,_=>none
def mxv (big:Bool):Int → List D → IntKind → Option D
 | m,[],k=>some (.i k m)
 | m,.i k' y :: r,k=>if k=k' then mxv big (if big then (if y > m then y else m) else (if y < m then y else m)) r k else none
 | _,_ :: _,_=>none
def bnd (o:Option D) (dflt top:Nat):Option Nat:=match o with
 | none=>some dflt
 | some (.i _ n)=>if 0 ≤ n ∧ n ≤ top then some n.toNat else none
 | _=>none
def ssv (x:D) (lo hi:Option D):Option D:=match x with
 | .s v=>match bnd hi v.size v.size with
  | some h=>match bnd lo 0 h with
   | some l=>some (.s (v.extract l h))
   | none=>none
  | none=>none
 | _=>none
def slk (k:K) (h l:Bool):K:=match k with
 | .x=>.x
 | .o=>if h && l then .o else .z
 | .n=>if h then .n else .z
 | .z=>.z
def slv (sz:Nat) (x:D) (lo hi mx:Option D):Option D:=match x with
 | .l k sz' xs=>if sz'=sz then match mx with
  | none=>match bnd hi xs.length xs.length with
   | some h=>match bnd lo 0 h with
    | some l=>some (.l (slk k hi.isNone lo.isNone) sz ((xs.take h).drop l))
    | none=>none
   | none=>none
  | some m=>match bnd (some m) 0 xs.length with
   | some m=>match hi with
    | none=>none
    | some h=>match bnd (some h) 0 m with
     | some h => if h = m then match bnd lo 0 h with
         | some l=>match k with
          | .x=>none
          | _=>some (.l .n sz ((xs.take h).drop l))
         | none=>none
      else none
     | none=>none
   | none=>none
  else none
 | _=>none
def elems (s:St) (r:R):Option (Nat × List D):=match r with
 | .v (.l _ sz xs)=>some (sz,xs)
 | .q (.hd pl)=>match s.at pl with
  | some (.l .x sz xs)=>(D.cps xs).map (sz,·)
  | _=>none
 | .q (.hdr k)=>match s.at (.ob k 0) with
  | some (.l .x sz xs)=>(D.cps xs).map (sz,·)
  | _=>none
 | _=>none
def appv (sz bytes:Nat) (x:D) (ys:List D):Option D:=match x with
 | .l k sz' xs=>if sz'=sz ∧ (xs.length + ys.length) * bytes ≤ 140737488355328 then match k with
  | .x=>some (.l .x sz (xs ++ ys))
  | .o=>some (.l .o sz (xs ++ D.fzs ys))
  | .n=>if ys.length=0 then some (.l .n sz xs) else some (.l .x sz (xs ++ ys))
  | .z=>none
  else none
 | _=>none
def lenv (s:St) (str:Bool) (r:R):Option (Int × Ac):=if str then match r with
 | .v (.s v)=>some (v.size,.no)
 | _=>none
 else match r with
 | .v (.l _ _ xs)=>some (xs.length,.no)
 | .q (.hd pl)=>match s.at pl with
  | some (.l .x _ xs)=>some (xs.length,(Q.hd pl).ac)
  | _=>none
 | .q (.hdr k)=>match s.at (.ob k 0) with
  | some (.l .x _ xs)=>some (xs.length,.rb k)
  | _=>none
 | _=>none
def hpl:R → Option (Pl × Ac)
 | .q (.hd pl)=>some (pl,(Q.hd pl).ac)
 | .q (.hdr k)=>some (.ob k 0,.rb k)
 | _=>none
def iav (s:St) (sz:Nat) (len:Option Nat) (r:R) (n:Int):Option (R × Ac):=if n < 0 then none else match len with
 | some m => if n < m then match r with
     | .v (.p g o)=>some (.v (.p g (o + n.toNat * sz)),.no)
     | .v (.q cs o)=>some (.v (.q cs (o + n.toNat * sz)),.no)
     | .q (.ptr k o)=>some (.q (.ptr k (o + n.toNat * sz)),.rl k 0 0)
     | .q (.el pl ix fo)=>some (.q (.el pl ix (fo + n.toNat * sz)),(Q.el pl ix fo).ac)
     | _=>none
  else none
 | none=>match r with
  | .v (.l k sz' xs) => if sz' = sz ∧ k ≠ .x then match xs[n.toNat]? with
      | some d=>some (.v (.q d.cells 0),.no)
      | none=>none
   else none
  | _=>match hpl r with
   | some (pl,ac)=>match s.at pl with
    | some (.l .x sz' xs)=>if sz'=sz ∧ n.toNat < xs.length then some (.q (.el pl n.toNat 0),ac) else none
    | _=>none
   | none=>none
def fav (off:Nat):R → Option R
 | .v (.p g o)=>some (.v (.p g (o + off)))
 | .v (.q cs o)=>some (.v (.q cs (o + off)))
 | .q (.ptr k o)=>some (.q (.ptr k (o + off)))
 | .q (.el pl ix fo)=>some (.q (.el pl ix (fo + off)))
 | _=>none
def fillc (cs:List D):List (Nat × Nat × D) → Option (List D)
 | [] => some cs
 | (off,n,d) :: r=>if d.cells.length=n ∧ off + n ≤ cs.length then fillc (ovr cs off d.cells) r else none
def fille (xs:List D) (sz:Nat):List (Nat × D) → Option (List D)
 | [] => some xs
 | (ix,d) :: r=>if d.cells.length=sz ∧ ix < xs.length then fille (xs.set ix d) sz r else none
def callpv (OO : Or) (f : FuncId) (ds : List D) : Option D := if D.nrs 0 ds then match OO.call f ds [] 0 with
    | some (d,[],_)=>some d
    | _=>none
 else none
theorem callpv_inv {OO:Or} {f:FuncId} {ds:List D} {d:D} (h:callpv OO f ds=some d):D.nrs 0 ds=true ∧ ∃ lo,OO.call f ds [] 0=some (d,[],lo):=by
 unfold callpv at h
 split at h
 ·rename_i hn
  split at h
  ·rename_i d' lo h1
   cases h
   exact ⟨hn,lo,h1⟩
  ·cases h
 ·cases h
theorem callpv_of {OO:Or} {f:FuncId} {ds:List D} {d:D} {lo:Nat} (hn:D.nrs 0 ds=true) (h:OO.call f ds [] 0=some (d,[],lo)):callpv OO f ds=some d:=by
 unfold callpv; rw [if_pos hn,h]
mutual
theorem beq_eq:∀ (d e:D),D.beq d e=true → d=e
 | .b x,e,h=>by cases e <;> simp [D.beq] at h ⊢; exact h
 | .i k x,e,h=>by cases e <;> simp [D.beq] at h ⊢; exact h
 | .f k x,e,h=>by cases e <;> simp [D.beq] at h ⊢; exact h
 | .s x,e,h=>by cases e <;> simp only [D.beq,Bool.false_eq_true] at h; exact congrArg D.s (by
  have h':(_:ByteArray).data == (_:ByteArray).data:=h
  exact ByteArray.ext (eq_of_beq h'))
 | .nilp,e,h=>by cases e <;> simp [D.beq] at h ⊢
 | .p r o,e,h=>by cases e <;> simp [D.beq] at h ⊢; exact h
 | .q cs o,e,h=>by cases e <;> simp [D.beq] at h ⊢; exact ⟨beqs_eq _ _ h.1,h.2⟩
 | .l k sz xs,e,h=>by cases e <;> simp [D.beq] at h ⊢; exact ⟨h.1.1,h.1.2,beqs_eq _ _ h.2⟩
 | .a cs,e,h=>by cases e <;> simp [D.beq] at h ⊢; exact beqs_eq _ _ h
 | .t cs,e,h=>by cases e <;> simp [D.beq] at h ⊢; exact beqs_eq _ _ h
 | .ic t v,e,h=>by cases e <;> simp [D.beq] at h ⊢; exact ⟨h.1,beq_eq _ _ h.2⟩
 | .bm t v,e,h=>by cases e <;> simp [D.beq] at h ⊢; exact ⟨h.1,beq_eq _ _ h.2⟩
 | .nili,e,h=>by cases e <;> simp [D.beq] at h ⊢
 | .fn g cs,e,h=>by cases e <;> simp [D.beq] at h ⊢; exact ⟨h.1,beqs_eq _ _ h.2⟩
 | .nilf,e,h=>by cases e <;> simp [D.beq] at h ⊢
 | .mp,e,h=>by cases e <;> simp [D.beq] at h ⊢
 | .mo r,e,h=>by cases e <;> simp [D.beq] at h ⊢; exact h
 | .u,e,h=>by cases e <;> simp [D.beq] at h ⊢
 | .w,e,h=>by cases e <;> simp [D.beq] at h ⊢
theorem beqs_eq:∀ (ds es:List D),D.beqs ds es=true → ds=es
 | [],es,h=>by cases es <;> simp [D.beqs] at h ⊢
 | d :: ds,es,h=>by
  cases es <;> simp [D.beqs] at h ⊢
  exact ⟨beq_eq _ _ h.1,beqs_eq _ _ h.2⟩
end
theorem map_t_inj {a b:List (List D)} (h:a.map D.t=b.map D.t):a=b:=by
 induction a generalizing b with
 | nil=>cases b <;> simp at h ⊢
 | cons x a ih =>
  cases b with
  | nil=>simp at h
  | cons y b=>simp at h; rw [h.1,ih h.2]
def callrv (OO:Or) (f:FuncId) (ds:List D) (r:Nat) (sg:List (List D)):Option D:=match OO.call f ds (sg.set r []) (sg.set r []).length with
 | some (d,sg',_)=>if D.beqs (sg'.map .t) ((sg.set r []).map .t) then some d else none
 | none=>none
theorem callrv_inv {OO:Or} {f:FuncId} {ds:List D} {r:Nat} {sg:List (List D)} {d:D} (h:callrv OO f ds r sg=some d):∃ lo,OO.call f ds (sg.set r []) (sg.set r []).length=some (d,sg.set r [],lo):=by
 unfold callrv at h
 split at h
 ·rename_i d' sg' lo h1
  split at h
  ·rename_i hb
   cases h
   have:=map_t_inj (beqs_eq _ _ hb)
   exact ⟨lo,by rw [h1,this]⟩
  ·cases h
 ·cases h
mutual
theorem beq_self:∀ d:D,D.beq d d=true
 | .b _ | .i _ _ | .f _ _ | .nilp | .p _ _ | .nili | .nilf | .mp | .mo _ | .u | .w=>by simp [D.beq]
 | .s x=>by simp only [D.beq]; show (x.data == x.data)=true; simp
 | .q cs _=>by simp [D.beq,beqs_self cs]
 | .l _ _ xs=>by simp [D.beq,beqs_self xs]
 | .a cs=>by simp [D.beq,beqs_self cs]
 | .t cs=>by simp [D.beq,beqs_self cs]
 | .ic _ v=>by simp [D.beq,beq_self v]
 | .bm _ v=>by simp [D.beq,beq_self v]
 | .fn _ cs=>by simp [D.beq,beqs_self cs]
theorem beqs_self:∀ ds:List D,D.beqs ds ds=true
 | [] => rfl
 | d :: ds=>by simp [D.beqs,beq_self d,beqs_self ds]
end
theorem callrv_of {OO:Or} {f:FuncId} {ds:List D} {r lo:Nat} {sg:List (List D)} {d:D} (h:OO.call f ds (sg.set r []) (sg.set r []).length=some (d,sg.set r [],lo)):callrv OO f ds r sg=some d:=by
 unfold callrv; rw [h]; simp only [beqs_self,if_true]
def mkey (str:Bool) (a b:D):Option Bool:=match str,a,b with
 | false,.i k x,.i k' y=>if k=k' then some (x == y) else none
 | true,.s x,.s y=>some (x == y)
 | _,_,_=>none
def mfind (str:Bool) (k:D):List D → Option (Option D)
 | [] => some none
 | k' :: v :: r=>match mkey str k k' with
  | some true=>some (some v)
  | some false=>mfind str k r
  | none=>none
 | [_] => none
def mset (str:Bool) (k v:D):List D → Option (List D)
 | [] => match mkey str k k with
  | some _=>some [k,v]
  | none=>none
 | k' :: v' :: r=>match mkey str k k' with
  | some true=>some (k :: v :: r)
  | some false=>(mset str k v r).map fun r=>k' :: v' :: r
  | none=>none
 | [_] => none
def mlkv (ok str:Bool) (z m k:D) (s:St):Option (R × St × Ac):=match m with
 | .mo r=>match s.sg[r]? with
  | some (.u :: es)=>(mfind str k es).map fun v=>(.v (if ok then .t [v.getD z,.b v.isSome] else v.getD z),s,.reg r)
  | _=>none
 | _=>none
def mupv (str:Bool) (m k d:D) (s:St):Option (R × St × Ac):=match m with
 | .mo r=>match k.cp,d.cp with
  | some k,some d=>match s.sg[r]? with
   | some (.u :: es)=>(mset str k d es).map fun es=>(.v .u,{ s with sg:=s.sg.set r (.u :: es),lo:=if D.nr 0 d then s.lo else min s.lo r },.ag)
   | _=>none
  | _,_=>none
 | _=>none
def mlnv (m:D) (s:St):Option (R × St × Ac):=match m with
 | .mo r=>match s.sg[r]? with
  | some (.u :: es)=>some (.v (.i .i64 (es.length / 2:Nat)),s,.reg r)
  | _=>none
 | _=>none
def bmOK (m:TypeId → String → Option FuncId) (nm:String):D → Bool
 | .ic t _=>(match m t nm with | some f=>decide (f < Q0) | none=>false)
 | _=>false
def evO (OO:Or) (meth:TypeId → String → Option FuncId) (o:O) (s:St) (dst:Option Nat):Option (R × St × Ac):=match o with
 | .mv x=>(rx x s).map fun (r,s)=>(r,s,r.ac)
 | .pick c a b=>match rxv c s with
  | some (.b t,s')=>if t then (rxv a s').map fun (d,s)=>(.v d,s,.no) else (rxv b s').map fun (d,s)=>(.v d,s,.no)
  | _=>none
 | .al z=>match dst with
  | some k=>some (.q (.ptr k 0),{ s with ob:=(k,z) :: s.ob,fr:=forget (Q.ofk k) s.fr },.wk k)
  | none=>none
 | .ag z=>some (.v (.p s.sg.length 0),{ s with sg:=s.sg ++ [z] },.ag)
 | .bx x=>match dst with
  | some k=>match rxv x s with
   | some (d,s)=>if stb d then some (.q (.ptr k 0),{ s with ob:=(k,d.cells) :: s.ob,fr:=forget (Q.ofk k) s.fr },.wk k) else none
   | none=>none
  | none=>none
 | .bg x=>match rxv x s with
  | some (d,s)=>if stb d then some (.v (.p s.sg.length 0),{ s with sg:=s.sg ++ [d.cells] },.ag) else none
  | none=>none
 | .bd z ps=>match rxs (ps.map (·.2.2)) s with
  | some (ds,s)=>if stbs ds then (fillc z ((ps.zip ds).map fun (p,d)=>(p.1,p.2.1,d))).map fun cs=>(.v (.a cs),s,.no) else none
  | none=>none
 | .bs sz n z ps=>match rxs (ps.map (·.2)) s with
  | some (ds,s)=>if stbs ds then (fille (List.replicate n z) sz ((ps.zip ds).map fun (p,d)=>(p.1,d))).map fun xs=>(.v (.l .x sz xs),s,.no) else none
  | none=>none
 | .ld agg n m x=>match rx x s with
  | some (r,s)=>ldp s agg n m r
  | none=>none
 | .lda n x=>match rx x s with
  | some (r,s)=>ldp s false n (auM s r) r
  | none=>none
 | .st n x y=>match rx x s with
  | some (r,s)=>match rxv y s with
   | some (v,s)=>if stb v then (stp s n r v).map fun (s,ac)=>(.v .u,s,ac) else none
   | none=>none
  | none=>none
 | .nc x=>match rx x s with
  | some (.v (.p g o),s)=>some (.v (.p g o),s,.no)
  | some (.v (.q cs o),s)=>some (.v (.q cs o),s,.no)
  | some (.v (.ic t d),s)=>some (.v (.ic t d),s,.no)
  | some (.v (.bm nm d),s)=>if bmOK meth nm d then some (.v (.bm nm d),s,.no) else none
  | some (.q q,s)=>match q with
   | .ptr .. | .el .. => some (.q q,s,q.ac)
   | _=>none
  | _=>none
 | .bin op x y=>match rxv x s with
  | some (a,s)=>match rxv y s with
   | some (b,s)=>(binv op a b).map fun d=>(.v d,s,.no)
   | none=>none
  | none=>none
 | .eq neg c x y=>match rxv x s with
  | some (a,s)=>match rxv y s with
   | some (b,s)=>(eq1 c a b).map fun t=>(.v (.b (if neg then !t else t)),s,.no)
   | none=>none
  | none=>none
 | .eqa neg cs x y=>match rxv x s with
  | some (.a ds,s)=>match rxv y s with
   | some (.a es,s)=>(eqs cs ds es).map fun t=>(.v (.b (if neg then !t else t)),s,.no)
   | _=>none
  | _=>none
 | .un op x=>match rxv x s with
  | some (a,s)=>(unv op a).map fun d=>(.v d,s,.no)
  | none=>none
 | .cv c x=>match rxv x s with
  | some (a,s)=>(cvv c a).map fun d=>(.v d,s,.no)
  | none=>none
 | .mi t x=>match rxv x s with
  | some (a,s)=>(a.cp).map fun d=>(.v (.ic t d),s,.no)
  | none=>none
 | .mm nm x=>match rxv x s with
  | some (a,s)=>(a.cp).map fun d=>(.v (.bm nm d),s,.no)
  | none=>none
 | .mf f xs=>match rxs xs s with
  | some (ds,s)=>(D.cps ds).map fun ds=>(.v (.fn f ds),s,.no)
  | none=>none
 | .ms sz bytes z x y=>match rxv x s with
  | some (.i .i64 n,s)=>match rxv y s with
   | some (.i .i64 c,s)=>if 0 ≤ n ∧ n ≤ c ∧ c ≤ 9223372036854775807 ∧ c.toNat * bytes ≤ 140737488355328 then some (.v (.l .x sz (List.replicate n.toNat z)),s,.no) else none
   | _=>none
  | _=>none
 | .ss x lo hi=>match rxv x s with
  | some (a,s)=>match rxo lo s with
   | some (l,s)=>match rxo hi s with
    | some (h,s)=>(ssv a l h).map fun d=>(.v d,s,.no)
    | none=>none
   | none=>none
  | none=>none
 | .sl sz x lo hi mx=>match rxv x s with
  | some (a,s)=>match rxo lo s with
   | some (l,s)=>match rxo hi s with
    | some (h,s)=>match rxo mx s with
     | some (m,s)=>(slv sz a l h m).map fun d=>(.v d,s,.no)
     | none=>none
    | none=>none
   | none=>none
  | none=>none
 | .fa off x=>match rx x s with
  | some (r,s)=>(fav off r).map fun r=>(r,s,r.ac)
  | none=>none
 | .fd agg off n x=>match rxv x s with
  | some (.a cs,s)=>match sub cs off n with
   | some ds=>(ofc agg ds).map fun d=>(.v d,s,.no)
   | none=>none
  | _=>none
 | .ia sz len x y=>match rx x s with
  | some (r,s)=>match rxv y s with
   | some (.i _ n,s)=>(iav s sz len r.fz n).map fun (r,ac)=>(r,s,ac)
   | _=>none
  | none=>none
 | .ixs x y=>match rxv x s with
  | some (.s v,s)=>match rxv y s with
   | some (.i _ n, s) => if 0 ≤ n then match v.data.toList[n.toNat]? with
       | some c=>some (.v (.i .u8 c.toNat),s,.no)
       | none=>none
    else none
   | _=>none
  | _=>none
 | .ixa agg sz len x y=>match rxv x s with
  | some (.a cs,s)=>match rxv y s with
   | some (.i _ n, s) => if 0 ≤ n ∧ n < len then match sub cs (n.toNat * sz) sz with
       | some ds=>(ofc agg ds).map fun d=>(.v d,s,.no)
       | none=>none
    else none
   | _=>none
  | _=>none
 | .ex tk n k=>match look k s.fr with
  | some (.v (.t ds))=>match ds[n]? with
   | some d=>if tk then some (.v d,{ s with fr:=(k,.v (.t (ds.set n .w))) :: s.fr },.no) else (d.cp).map fun d=>(.v d,s,.no)
   | none=>none
  | _=>none
 | .len str x=>match rx x s with
  | some (r,s)=>(lenv s str r).map fun (n,ac)=>(.v (.i .i64 n),s,ac)
  | none=>none
 | .app sz bytes x y=>match rxv x s with
  | some (a,s)=>match rx y s with
   | some (r,s)=>match elems s r with
    | some (sz',ys)=>if sz'=sz then (appv sz bytes a ys).map fun d=>(.v d,s,r.acE) else none
    | none=>none
   | none=>none
  | none=>none
 | .apps x y=>match rxv x s with
  | some (a,s)=>match rxv y s with
   | some (.s v,s)=>(appv 1 1 a (ofBy v)).map fun d=>(.v d,s,.no)
   | _=>none
  | none=>none
 | .cpy sz x y=>match rx x s with
  | some (r,s)=>match rxv y s with
   | some (.l _ sz' ys,s)=>match hpl r with
    | some (pl,_)=>match s.at pl with
     | some (.l .x sz'' xs) => if sz' = sz ∧ sz'' = sz then
         some (.v (.i .i64 (min ys.length xs.length)),{ s.setAt pl (.l .x sz (ys.take xs.length ++ xs.drop ys.length)) with lo:=s.loAt (.l .z sz ys) pl },pl.we)
      else none
     | _=>none
    | none=>none
   | _=>none
  | none=>none
 | .srt f g x=>match rx x s with
  | some (r,s)=>match hpl r with
   | some (pl,_)=>match s.at pl with
    | some (.l .x sz xs)=>match OO.srt f g sz xs with
     | some ys=>if ys.length=xs.length then some (.v (.t []),{ s.setAt pl (.l .x sz ys) with lo:=s.loAt (.l .z sz ys) pl },pl.we) else none
     | none=>none
    | _=>none
   | none=>none
  | none=>none
 | .mx big xs=>match rxs xs s with
  | some (.i k m :: ds,s)=>(mxv big m ds k).map fun d=>(.v d,s,.no)
  | _=>none
 | .call f xs=>match rxs xs s with
  | some (ds,s)=>(OO.call f ds s.sg s.sg.length).map fun (d,sg,lo)=>(.v d,{ s with sg:=sg,lo:=min s.lo lo,fr:=forget Q.gl s.fr },.cl (D.beqs (sg.map .t) (s.sg.map .t) && decide (s.lo ≤ lo)))
  | none=>none
 | .callp f xs=>match rxs xs s with
  | some (ds,s)=>(callpv OO f ds).map fun d=>(.v d,s,.no)
  | none=>none
 | .callr f xs x=>match rxv x s with
  | some (.p r _,s)=>match rxs xs s with
   | some (ds,s)=>(callrv OO f ds r s.sg).map fun d=>(.v d,{ s with fr:=forget (Q.glx r) s.fr },.clx r)
   | none=>none
  | _=>none
 | .callv x xs=>match rxv x s with
  | some (.fn f cs,s)=>match rxs xs s with
   | some (ds,s)=>(OO.call f (ds ++ cs) s.sg s.sg.length).map fun (d,sg,lo)=>(.v d,{ s with sg:=sg,lo:=min s.lo lo,fr:=forget Q.gl s.fr },.cl (D.beqs (sg.map .t) (s.sg.map .t) && decide (s.lo ≤ lo)))
   | none=>none
  | _=>none
 | .inv nm x xs=>match rxv x s with
  | some (.ic t v,s)=>match meth t nm with
   | some f=>match rxs xs s with
    | some (ds,s)=>(OO.call f (v :: ds) s.sg s.sg.length).map fun (d,sg,lo)=>(.v d,{ s with sg:=sg,lo:=min s.lo lo,fr:=forget Q.gl s.fr },.cl (D.beqs (sg.map .t) (s.sg.map .t) && decide (s.lo ≤ lo)))
    | none=>none
   | none=>none
  | _=>none
 | .bits x=>match rxv x s with
  | some (.f .f64 n,s)=>some (.v (.i .u64 n),s,.no)
  | _=>none
 | .frbits x=>match rxv x s with
  | some (.i .u64 n,s)=>if 0 ≤ n then some (.v (.f .f64 n.toNat),s,.no) else none
  | _=>none
 | .mkm=>some (.v (.mo s.sg.length),{ s with sg:=s.sg ++ [[.u]] },.ag)
 | .mlk ok str z x y=>match rxv x s with
  | some (m,s)=>match rxv y s with
   | some (k,s)=>mlkv ok str z m k s
   | none=>none
  | none=>none
 | .mup str x y v=>match rxv x s with
  | some (m,s)=>match rxv y s with
   | some (k,s)=>match rxv v s with
    | some (d,s)=>mupv str m k d s
    | none=>none
   | none=>none
  | none=>none
 | .mln x=>match rxv x s with
  | some (m,s)=>mlnv m s
  | none=>none
 | .ta t x=>match rxv x s with
  | some (.ic t' d,s)=>if t=t' then some (.v d,s,.no) else none
  | _=>none
where
 rxo (x:Option X) (s:St):Option (Option D × St):=match x with
  | none=>some (none,s)
  | some x=>(rxv x s).map fun (d,s)=>(some d,s)
structure En where
 fn:FuncId → Option F
 fbits:Option FuncId
 frb:Option FuncId
 meth:TypeId → String → Option FuncId
 lib:FuncId → List D → Option D
 srt:FuncId → FuncId → Nat → List D → Option (List D):=fun _ _ _ _=>none
def wants (s:St) (g:Option (Nat × Bool)):Option Bool:=match g with
 | none=>some true
 | some (k,b)=>match look k s.fr with
  | some (.v (.b t))=>some (t == b)
  | some (.v .u)=>some false
  | _=>none
def evI (E:En) (OO:Or) (i:I) (s:St):Option (St × Ac):=match wants s i.gd with
 | none=>none
 | some true=>(evO OO E.meth i.op s i.dst).map fun (r,s',ac)=>(s'.put i.dst (fzR i.fz r),ac)
 | some false=>some (s.put i.dst (.v .u),.no)
def evOps (E:En) (OO:Or):List I → St → Option St
 | [],s=>some s
 | i :: r,s=>match evI E OO i s with
  | some (s',_)=>evOps E OO r s'
  | none=>none
def okA (un:List Nat) (acs:List Ac) (ac:Ac):Bool:=un.all (fun j=>match acs[j]? with | some a=>a.ok ac | none=>false)
def evOpsD (E:En) (OO:Or):List I → List Ac → St → Option St
 | [],_,s=>some s
 | i :: r,acs,s=>match evI E OO i s with
  | some (s',ac)=>if okA i.un acs ac then evOpsD E OO r (acs ++ [ac]) s' else none
  | none=>none
def evG (g:Gh) (s:St):Option St:=match g with
 | .fz k=>match look k s.fr with
  | some (.v d)=>some { s with fr:=(k,.v d.fo) :: drp k s.fr }
  | _=>none
 | .zz k=>match look k s.fr with
  | some (.v d)=>some { s with fr:=(k,.v d.zz) :: drp k s.fr }
  | _=>none
 | .fzo k=>match look k s.ob with
  | some cs=>some { s with ob:=(k,D.fos cs) :: s.ob,fr:=forget (Q.bor k) s.fr }
  | none=>none
 | .thaw k=>match look k s.fr with
  | some (.v (.l .x sz xs))=>some { s with fr:=(k,.q (.hdr k)) :: forget (Q.ofk k) (drp k s.fr),ob:=(k,[.l .x sz xs]) :: s.ob }
  | some (.q (.hdr _))=>some s
  | _=>none
 | .unth k=>match look k s.fr with
  | some (.q (.hdr j))=>match look j s.ob with
   | some [d] => some { s with fr:=(k,.v d) :: forget (Q.ofk j) s.fr,ob:=drp j s.ob }
   | _=>none
  | some (.v _)=>some s
  | _=>none
def evGs:List Gh → St → Option St
 | [],s=>some s
 | g :: r,s=>match evG g s with
  | some s'=>evGs r s'
  | none=>none
def keep {α : Type}:List Nat → List (Nat × α) → List (Nat × α)
 | [],_=>[]
 | k :: ks,m=>match look k m with
  | some x=>(k,x) :: keep ks m
  | none=>keep ks m
def sq (r:Option Rs) (f:St → Option Rs):Option Rs:=match r with
 | some (.n s)=>f s
 | r=>r
def bk (n:Nat) (r:Option Rs):Option Rs:=match r with
 | some (.x id s)=>if id=n then some (.n s) else some (.x id s)
 | r=>r
def evC (E:En) (OO:Or):C → St → Option Rs
 | .skip,s=>some (.n s)
 | .reg gs ops dr ls os,s=>match evGs gs s with
  | some s=>match (if dr then evOpsD E OO ops [] s else evOps E OO ops s) with
   | some s=>some (.n { s with fr:=forget (Q.dead os) (keep ls s.fr),ob:=keep os s.ob })
   | none=>none
  | none=>none
 | .seq a b,s=>sq (evC E OO a s) (evC E OO b)
 | .cond x a b,s=>match look x s.fr with
  | some (.v (.b t))=>if t then evC E OO a s else evC E OO b s
  | _=>none
 | .blk n a,s=>bk n (evC E OO a s)
 | .loop a,s=>OO.loop a s
 | .exit n,s=>some (.x n s)
 | .ret,s=>some (.r s)
def ini:Nat → List D → List (Nat × R)
 | _,[] => []
 | n,d :: ds=>(n,.v d) :: ini (n + 1) ds
def iniF (f:FuncId) (ds:List D) (sg:List (List D)):Option (List (Nat × R)):=if f < Q0 then some (ini 0 ds) else match ds with
 | .p r off :: ds'=>match sg[r]? with
  | some cs=>match cs[off]? with
   | some _=>some ((0,.q (.hd (.gb r off))) :: ini 1 ds')
   | none=>none
  | none=>none
 | _=>none
theorem iniF_lt {f:FuncId} {ds:List D} {sg:List (List D)} (h:f < Q0):iniF f ds sg=some (ini 0 ds):=by unfold iniF; exact if_pos h
theorem iniF_q {f : FuncId} {r off : Nat} {ds cs : List D} {d0 : D} {sg : List (List D)} (h : ¬ f < Q0) (h1 : sg[r]? = some cs) (h2 : cs[off]? = some d0) :
    iniF f (.p r off :: ds) sg=some ((0,.q (.hd (.gb r off))) :: ini 1 ds):=by
 unfold iniF; rw [if_neg h]; simp only [h1,h2]
theorem iniF_inv {f : FuncId} {ds0 : List D} {sg : List (List D)} {fr : List (Nat × R)} (h : ¬ f < Q0) (he : iniF f ds0 sg = some fr) :
    ∃ r off ds cs d0,ds0=.p r off :: ds ∧ sg[r]? = some cs ∧ cs[off]? = some d0 ∧ fr=(0,.q (.hd (.gb r off))) :: ini 1 ds:=by
 unfold iniF at he
 rw [if_neg h] at he
 split at he
 ·split at he
  ·split at he
   ·cases he; exact ⟨_,_,_,_,_,rfl,by assumption,by assumption,rfl⟩
   ·cases he
  ·cases he
 ·cases he
def resv:List (Sum Nat (Nat × Bool × Nat)) → St → Option (List D × St)
 | [],s=>some ([],s)
 | .inl k :: r,s=>match look k s.fr with
  | some (.v d)=>match resv r { s with fr:=drp k s.fr } with
   | some (ds,s')=>some (d :: ds,s')
   | none=>none
  | _=>none
 | .inr (k,agg,n) :: r,s=>match look k s.fr with
  | some (.q (.ptr j off))=>match ldp s agg n .tk (.q (.ptr j off)) with
   | some (.v d,s1,_)=>match resv r s1 with
    | some (ds,s')=>some (d :: ds,s')
    | none=>none
   | _=>none
  | _=>none
def tup:List D → D
 | [d] => d
 | ds=>.t ds
def fin (f:F) (n:Nat) (r:Option Rs):Option (D × List (List D) × Nat):=match r with
 | some (.n s) | some (.r s)=>match resv f.res s with
  | some (ds,s)=>if D.nr n (tup ds) && n ≤ s.lo then some (tup ds,s.sg.take n,s.lo) else some (tup ds,s.sg,s.lo)
  | none=>none
 | _=>none
def stepCall (E:En) (OO:Or) (f:FuncId) (ds:List D) (sg:List (List D)) (lo:Nat):Option (D × List (List D) × Nat):=match E.fn f with
 | some af => if ds.length = af.np then match iniF f ds sg with
     | some fr=>fin af sg.length (evC E OO af.body ⟨fr,[],sg,lo⟩)
     | none=>none
  else none
 | none=>if lo=sg.length then (E.lib f ds).map fun d=>(d,sg,lo) else none
def stepLoop (E:En) (OO:Or) (c:C) (s:St):Option Rs:=sq (evC E OO c s) (OO.loop c)
def evK (E:En):Nat → Or
 | 0=>⟨fun _ _ _ _=>none,fun _ _=>none,E.srt⟩
 | n + 1=>⟨stepCall E (evK E n),stepLoop E (evK E n),E.srt⟩
end Go.AM

namespace Go.AM
def Room (w:World) (b m:Nat):Prop:=∃ c t f,w.heap[b]? = some (.cells c t f) ∧ m ≤ c.size ∧ (∀ j,j < c.size → w.frozen? ⟨b,j,none⟩=false) ∧ f.1 ≤ f.2
def cellsOf (xs:List D):List D:=xs.flatMap D.cells
inductive RVs (im:Nat → Nat → Option Value) (gl:Nat → Option (Nat × Bool)) (w:World):List D → List Value → List Nat → Prop where
 | nil:RVs im gl w [] [] []
 | b {ds vs F} (x:Bool) (h:RVs im gl w ds vs F):RVs im gl w (.b x :: ds) (.bool x :: vs) F
 | i {ds vs F} (k:IntKind) (n:Int) (h:RVs im gl w ds vs F):RVs im gl w (.i k n :: ds) (.int k n :: vs) F
 | f {ds vs F} (k:FloatKind) (n:Nat) (h:RVs im gl w ds vs F):RVs im gl w (.f k n :: ds) (.float k n :: vs) F
 | s {ds vs F} (x:ByteArray) (h:RVs im gl w ds vs F):RVs im gl w (.s x :: ds) (.string x :: vs) F
 | nilp {ds vs F} (h:RVs im gl w ds vs F):RVs im gl w (.nilp :: ds) (.pointer none :: vs) F
 | p {ds vs F} (r off b:Nat) (hg:gl r=some (b,false)) (h:RVs im gl w ds vs F):RVs im gl w (.p r off :: ds) (.pointer (some ⟨b,off,none⟩) :: vs) F
 | q {ds vs F} (cs : List D) (off b o : Nat) (us : List Value) (hu : ∀ j v, us[j]? = some v → im b (o + j) = some v) (h1 : ∀ v ∈ us, v.oneCell' = true)
     (hc:RVs im gl w cs us []) (h:RVs im gl w ds vs F):RVs im gl w (.q cs off :: ds) (.pointer (some ⟨b,o + off,none⟩) :: vs) F
 | lnil {ds vs F} (k:K) (sz:Nat) (h:RVs im gl w ds vs F):RVs im gl w (.l k sz [] :: ds) (.slice none 0 0 :: vs) F
 | lez {ds vs F} (k:K) (hk:k=.z ∨ k=.n) (sz:Nat) (x:Addr) (cap:Nat) (hn:k=.n → cap=0) (h:RVs im gl w ds vs F):RVs im gl w (.l k sz [] :: ds) (.slice (some x) 0 cap :: vs) F
 | lz {ds vs F} (k : K) (hk : k = .z ∨ k = .n) (sz : Nat) (xs : List D) (b o cap : Nat) (us : List Value) (hcap : xs.length ≤ cap) (hn : k = .n → cap = xs.length)
     (hs:∀ x ∈ xs,x.cells.length=sz) (hu:∀ j v,us[j]? = some v → im b (o + j)=some v) (h1:∀ v ∈ us,v.oneCell'=true)
     (hc:RVs im gl w (cellsOf xs) us []) (h:RVs im gl w ds vs F):RVs im gl w (.l k sz xs :: ds) (.slice (some ⟨b,o,none⟩) xs.length cap :: vs) F
 | lo {ds vs F} (sz : Nat) (xs : List D) (b o cap : Nat) (us : List Value) (hcap : xs.length ≤ cap)
     (hs:∀ x ∈ xs,x.cells.length=sz) (hu:∀ j v,us[j]? = some v → im b (o + j)=some v) (h1:∀ v ∈ us,v.oneCell'=true)
     (hr:Room w b (o + cap * sz)) (hi:∀ j,o + xs.length * sz ≤ j → im b j=none)
     (hc:RVs im gl w (cellsOf xs) us []) (h:RVs im gl w ds vs F):RVs im gl w (.l .o sz xs :: ds) (.slice (some ⟨b,o,none⟩) xs.length cap :: vs) (b :: F)
 | lx {ds vs F G} (sz : Nat) (xs : List D) (b o cap : Nat) (us : List Value) (hcap : xs.length ≤ cap)
     (hs:∀ x ∈ xs,x.cells.length=sz) (hu:∀ j v,us[j]? = some v → w.cell? ⟨b,o + j,none⟩=some v) (h1:∀ v ∈ us,v.oneCell'=true)
     (hr:Room w b (o + cap * sz)) (hi:∀ j,im b j=none)
     (hc:RVs im gl w (cellsOf xs) us G) (h:RVs im gl w ds vs F):RVs im gl w (.l .x sz xs :: ds) (.slice (some ⟨b,o,none⟩) xs.length cap :: vs) (b :: (G ++ F))
 | a {ds vs F G} (cs : List D) (us : List Value) (h1 : ∀ v ∈ us, v.oneCell' = true) (hc : RVs im gl w cs us G) (h : RVs im gl w ds vs F) :
     RVs im gl w (.a cs :: ds) (.agg us.toArray :: vs) (G ++ F)
 | t {ds vs F G} (cs : List D) (us : List Value) (hc : RVs im gl w cs us G) (h : RVs im gl w ds vs F) :
     RVs im gl w (.t cs :: ds) (.tuple us.toArray :: vs) (G ++ F)
 | ic {ds vs F} (ty:TypeId) (d:D) (v:Value) (hc:RVs im gl w [d] [v] []) (h:RVs im gl w ds vs F):RVs im gl w (.ic ty d :: ds) (.iface ty v :: vs) F
 | bm {ds vs F} (nm:String) (d:D) (v:Value) (hc:RVs im gl w [d] [v] []) (h:RVs im gl w ds vs F):RVs im gl w (.bm nm d :: ds) (.func (.method nm) #[v] #[] :: vs) F
 | nili {ds vs F} (h:RVs im gl w ds vs F):RVs im gl w (.nili :: ds) (.nilIface :: vs) F
 | fn {ds vs F} (g : FuncId) (cs : List D) (us : List Value) (hg : g < Q0) (hc : RVs im gl w cs us []) (h : RVs im gl w ds vs F) :
     RVs im gl w (.fn g cs :: ds) (.func (.func g) #[] us.toArray :: vs) F
 | nilf {ds vs F} (h:RVs im gl w ds vs F):RVs im gl w (.nilf :: ds) (.nilFunc :: vs) F
 | mo {ds vs F} (r b:Nat) (hg:gl r=some (b,true)) (h:RVs im gl w ds vs F):RVs im gl w (.mo r :: ds) (.map (some b) :: vs) F
 | mp {ds vs F} (r:Option Nat) (h:RVs im gl w ds vs F):RVs im gl w (.mp :: ds) (.map r :: vs) F
 | u {ds vs F} (h:RVs im gl w ds vs F):RVs im gl w (.u :: ds) (undef :: vs) F
 | w {ds vs F} (v:Value) (h:RVs im gl w ds vs F):RVs im gl w (.w :: ds) (v :: vs) F
theorem Room.of_block {w w':World} {b m:Nat} (h:Room w b m) (e:w'.heap[b]? = w.heap[b]?):Room w' b m:=by
 obtain ⟨c,t,f,hb,hm,hf,hle⟩:=h
 refine ⟨c,t,f,e.trans hb,hm,fun j hj=>?_,hle⟩
 rw [← hf j hj]
 exact World.frozen?_of_block (w:=w) (w':=w') (a:=⟨b,j,none⟩) e
theorem RVs.frame {im im' : Nat → Nat → Option Value} {gl gl' : Nat → Option (Nat × Bool)} {w w' : World} {ds : List D} {vs : List Value} {F : List Nat}
    (h:RVs im gl w ds vs F) (hm:∀ b j v,im b j=some v → im' b j=some v) (hg:∀ r b,gl r=some b → gl' r=some b)
    (hF:∀ b ∈ F,(∀ j,im' b j=im b j) ∧ w'.heap[b]? = w.heap[b]?):RVs im' gl' w' ds vs F:=by
 induction h with
 | nil=>exact .nil
 | b x _ ih=>exact .b x (ih hF)
 | i k n _ ih=>exact .i k n (ih hF)
 | f k n _ ih=>exact .f k n (ih hF)
 | s x _ ih=>exact .s x (ih hF)
 | nilp _ ih=>exact .nilp (ih hF)
 | p r off b hb _ ih=>exact .p r off b (hg _ _ hb) (ih hF)
 | q cs off b o us hu h1 _ _ ihc ih=>exact .q cs off b o us (fun j v e=>hm _ _ _ (hu j v e)) h1 (ihc (by simp)) (ih hF)
 | lnil k sz _ ih=>exact .lnil k sz (ih hF)
 | lez k hk sz x cap hn _ ih=>exact .lez k hk sz x cap hn (ih hF)
 | lz k hk sz xs b o cap us hcap hn hs hu h1 _ _ ihc ih=>exact .lz k hk sz xs b o cap us hcap hn hs (fun j v e=>hm _ _ _ (hu j v e)) h1 (ihc (by simp)) (ih hF)
 | lo sz xs b o cap us hcap hs hu h1 hr hi _ _ ihc ih =>
  obtain ⟨e1,e2⟩:=hF b (by simp)
  exact .lo sz xs b o cap us hcap hs (fun j v e=>hm _ _ _ (hu j v e)) h1 (hr.of_block e2) (fun j hj=>(e1 j).trans (hi j hj)) (ihc (by simp)) (ih (fun c hc=>hF c (by simp [hc])))
 | lx sz xs b o cap us hcap hs hu h1 hr hi _ _ ihc ih =>
  obtain ⟨e1,e2⟩:=hF b (by simp)
  exact .lx sz xs b o cap us hcap hs (fun j v e=>(World.cell?_of_block (a:=⟨b,o + j,none⟩) e2).trans (hu j v e)) h1 (hr.of_block e2) (fun j=>(e1 j).trans (hi j))
   (ihc (fun c hc=>hF c (by simp [hc]))) (ih (fun c hc=>hF c (by simp [hc])))
 | a cs us h1 _ _ ihc ih=>exact .a cs us h1 (ihc (fun c hc=>hF c (by simp [hc]))) (ih (fun c hc=>hF c (by simp [hc])))
 | t cs us _ _ ihc ih=>exact .t cs us (ihc (fun c hc=>hF c (by simp [hc]))) (ih (fun c hc=>hF c (by simp [hc])))
 | ic ty d v _ _ ihc ih=>exact .ic ty d v (ihc (by simp)) (ih hF)
 | bm nm d v _ _ ihc ih=>exact .bm nm d v (ihc (by simp)) (ih hF)
 | nili _ ih=>exact .nili (ih hF)
 | fn g cs us hg _ _ ihc ih=>exact .fn g cs us hg (ihc (by simp)) (ih hF)
 | nilf _ ih=>exact .nilf (ih hF)
 | mp r _ ih=>exact .mp r (ih hF)
 | mo r b hb _ ih=>exact .mo r b (hg _ _ hb) (ih hF)
 | u _ ih=>exact .u (ih hF)
 | w v _ ih=>exact .w v (ih hF)
theorem RVs.length {im gl w ds vs F} (h:RVs im gl w ds vs F):ds.length=vs.length:=by
 induction h <;> simp_all
theorem RVs.append {im gl w ds vs F es us G} (h:RVs im gl w ds vs F) (k:RVs im gl w es us G):RVs im gl w (ds ++ es) (vs ++ us) (F ++ G):=by
 induction h with
 | nil=>exact k
 | b x _ ih=>exact .b x ih
 | i k n _ ih=>exact .i k n ih
 | f k n _ ih=>exact .f k n ih
 | s x _ ih=>exact .s x ih
 | nilp _ ih=>exact .nilp ih
 | p r off b hb _ ih=>exact .p r off b hb ih
 | q cs off b o us hu h1 hc _ _ ih=>exact .q cs off b o us hu h1 hc ih
 | lnil k sz _ ih=>exact .lnil k sz ih
 | lez k hk sz x cap hn _ ih=>exact .lez k hk sz x cap hn ih
 | lz k hk sz xs b o cap us hcap hn hs hu h1 hc _ _ ih=>exact .lz k hk sz xs b o cap us hcap hn hs hu h1 hc ih
 | lo sz xs b o cap us hcap hs hu h1 hr hi hc _ _ ih=>exact .lo sz xs b o cap us hcap hs hu h1 hr hi hc ih
 | lx sz xs b o cap us hcap hs hu h1 hr hi hc _ _ ih =>
  have:=RVs.lx sz xs b o cap us hcap hs hu h1 hr hi hc ih
  simpa [List.append_assoc] using this
 | a cs us h1 hc _ _ ih=>have:=RVs.a cs us h1 hc ih; simpa [List.append_assoc] using this
 | t cs us hc _ _ ih=>have:=RVs.t cs us hc ih; simpa [List.append_assoc] using this
 | ic ty d v hc _ _ ih=>exact .ic ty d v hc ih
 | bm nm d v hc _ _ ih=>exact .bm nm d v hc ih
 | nili _ ih=>exact .nili ih
 | fn g cs us hg hc _ _ ih=>exact .fn g cs us hg hc ih
 | nilf _ ih=>exact .nilf ih
 | mp r _ ih=>exact .mp r ih
 | mo r b hb _ ih=>exact .mo r b hb ih
 | u _ ih=>exact .u ih
 | w v _ ih=>exact .w v ih
theorem RVs.cons_inv {im gl w d ds vs F} (h : RVs im gl w (d :: ds) vs F) :
    ∃ v us A B,vs=v :: us ∧ F=A ++ B ∧ RVs im gl w [d] [v] A ∧ RVs im gl w ds us B:=by
 cases h with
 | b x h=>exact ⟨_,_,[],_,rfl,rfl,.b x .nil,h⟩
 | i k n h=>exact ⟨_,_,[],_,rfl,rfl,.i k n .nil,h⟩
 | f k n h=>exact ⟨_,_,[],_,rfl,rfl,.f k n .nil,h⟩
 | s x h=>exact ⟨_,_,[],_,rfl,rfl,.s x .nil,h⟩
 | nilp h=>exact ⟨_,_,[],_,rfl,rfl,.nilp .nil,h⟩
 | p r off b hb h=>exact ⟨_,_,[],_,rfl,rfl,.p r off b hb .nil,h⟩
 | q cs off b o us hu h1 hc h=>exact ⟨_,_,[],_,rfl,rfl,.q cs off b o us hu h1 hc .nil,h⟩
 | lnil k sz h=>exact ⟨_,_,[],_,rfl,rfl,.lnil k sz .nil,h⟩
 | lez k hk sz x cap hn h=>exact ⟨_,_,[],_,rfl,rfl,.lez k hk sz x cap hn .nil,h⟩
 | lz k hk sz xs b o cap us hcap hn hs hu h1 hc h=>exact ⟨_,_,[],_,rfl,rfl,.lz k hk sz xs b o cap us hcap hn hs hu h1 hc .nil,h⟩
 | lo sz xs b o cap us hcap hs hu h1 hr hi hc h=>exact ⟨_,_,[b],_,rfl,rfl,.lo sz xs b o cap us hcap hs hu h1 hr hi hc .nil,h⟩
 | @lx _ _ F G sz xs b o cap us hcap hs hu h1 hr hi hc h =>
  refine ⟨_,_,b :: G,F,rfl,by simp,?_,h⟩
  have:=RVs.lx sz xs b o cap us hcap hs hu h1 hr hi hc (RVs.nil (im:=im) (gl:=gl) (w:=w)); simpa using this
 | @a _ _ F G cs us h1 hc h=>refine ⟨_,_,G,F,rfl,rfl,?_,h⟩; have:=RVs.a cs us h1 hc (RVs.nil (im:=im) (gl:=gl) (w:=w)); simpa using this
 | @t _ _ F G cs us hc h=>refine ⟨_,_,G,F,rfl,rfl,?_,h⟩; have:=RVs.t cs us hc (RVs.nil (im:=im) (gl:=gl) (w:=w)); simpa using this
 | ic ty d v hc h=>exact ⟨_,_,[],_,rfl,rfl,.ic ty d v hc .nil,h⟩
 | bm nm d v hc h=>exact ⟨_,_,[],_,rfl,rfl,.bm nm d v hc .nil,h⟩
 | nili h=>exact ⟨_,_,[],_,rfl,rfl,.nili .nil,h⟩
 | fn g cs us hg hc h=>exact ⟨_,_,[],_,rfl,rfl,.fn g cs us hg hc .nil,h⟩
 | nilf h=>exact ⟨_,_,[],_,rfl,rfl,.nilf .nil,h⟩
 | mp r h=>exact ⟨_,_,[],_,rfl,rfl,.mp r .nil,h⟩
 | mo r b hb h=>exact ⟨_,_,[],_,rfl,rfl,.mo r b hb .nil,h⟩
 | u h=>exact ⟨_,_,[],_,rfl,rfl,.u .nil,h⟩
 | w v h=>exact ⟨_,_,[],_,rfl,rfl,.w v .nil,h⟩
theorem RVs.append_inv {im gl w} : ∀ (ds : List D) {es vs F}, RVs im gl w (ds ++ es) vs F →
    ∃ us ts A B,vs=us ++ ts ∧ F=A ++ B ∧ us.length=ds.length ∧ RVs im gl w ds us A ∧ RVs im gl w es ts B
 | [],es,vs,F,h=>⟨[],vs,[],F,rfl,rfl,rfl,.nil,h⟩
 | d :: ds,es,vs,F,h=>by
  obtain ⟨v,us,A,B,rfl,rfl,h1,h2⟩:=RVs.cons_inv h
  obtain ⟨us',ts,A',B',rfl,rfl,hl,h3,h4⟩:=RVs.append_inv ds h2
  exact ⟨v :: us',ts,A ++ A',B',by simp,by simp,by simp [hl],by simpa using h1.append h3,h4⟩
theorem RVs.single {im gl w d vs F} (h:RVs im gl w [d] vs F):∃ v,vs=[v] := by
 have:=h.length
 match vs,this with
 | [v],_=>exact ⟨v,rfl⟩
end Go.AM

namespace Go.AM
theorem RVs.cp {im gl w ds vs F} (h:RVs im gl w ds vs F):∀ es,D.cps ds=some es → RVs im gl w es vs [] := by
 induction h with
 | nil=>intro es e; simp [D.cps] at e; subst e; exact .nil
 | lz k hk sz xs b o cap us hcap hn hs hu h1 hc _ _ ih =>
  intro es e
  rcases hk with rfl | rfl
  all_goals
   simp only [D.cps,D.cp] at e
   split at e
   ·rename_i d' ds' e1 e2
    cases e1; cases e
    exact .lz _ (by simp) sz xs b o cap us hcap hn hs hu h1 hc (ih _ e2)
   ·cases e
 | lo sz xs b o cap us hcap hs hu h1 hr hi hc _ _ ih =>
  intro es e
  simp only [D.cps,D.cp] at e
  split at e
  ·rename_i d' ds' e1 e2
   cases e1; cases e
   exact .lz _ (.inl rfl) sz xs b o cap us hcap (by simp) hs hu h1 hc (ih _ e2)
  ·cases e
 | lx sz xs b o cap us hcap hs hu h1 hr hi hc _ _ ih =>
  intro es e
  simp only [D.cps,D.cp] at e
  split at e
  ·rename_i d' ds' e1 e2
   cases e1; cases e
   exact .w _ (ih _ e2)
  ·cases e
 | lnil k sz _ ih =>
  intro es e
  cases k <;> simp only [D.cps,D.cp] at e <;> first
   | (cases e; done)
   | (split at e
      ·rename_i d' ds' e1 e2
       cases e1; cases e
       exact .w _ (ih _ e2)
      ·cases e; done)
   | (split at e
      ·rename_i d' ds' e1 e2
       cases e1; cases e
       exact .lnil _ sz (ih _ e2)
      ·cases e)
 | lez k hk sz x cap hn _ ih =>
  intro es e
  rcases hk with rfl | rfl
  all_goals
   simp only [D.cps,D.cp] at e
   split at e
   ·rename_i d' ds' e1 e2
    cases e1; cases e
    exact .lez _ (by simp) sz x cap hn (ih _ e2)
   ·cases e
 | a cs us h1 _ _ ihc ih =>
  intro es e
  simp only [D.cps,D.cp] at e
  split at e
  ·rename_i d' ds' e1 e2
   cases e
   cases hq:D.cps cs with
   | none=>rw [hq] at e1; cases e1
   | some cs' =>
    rw [hq] at e1; cases e1
    have:=RVs.a cs' us h1 (ihc _ hq) (ih _ e2)
    simpa using this
  ·cases e
 | t cs us _ _ ihc ih =>
  intro es e
  simp only [D.cps,D.cp] at e
  split at e
  ·rename_i d' ds' e1 e2
   cases e
   cases hq:D.cps cs with
   | none=>rw [hq] at e1; cases e1
   | some cs' =>
    rw [hq] at e1; cases e1
    have:=RVs.t cs' us (ihc _ hq) (ih _ e2)
    simpa using this
  ·cases e
 | w v _ ih=>intro es e; simp [D.cps,D.cp] at e
 | b x _ ih=>intro es e; simp only [D.cps,D.cp] at e; split at e <;> cases e; rename_i e1 e2; cases e1; exact .b x (ih _ e2)
 | i k n _ ih=>intro es e; simp only [D.cps,D.cp] at e; split at e <;> cases e; rename_i e1 e2; cases e1; exact .i k n (ih _ e2)
 | f k n _ ih=>intro es e; simp only [D.cps,D.cp] at e; split at e <;> cases e; rename_i e1 e2; cases e1; exact .f k n (ih _ e2)
 | s x _ ih=>intro es e; simp only [D.cps,D.cp] at e; split at e <;> cases e; rename_i e1 e2; cases e1; exact .s x (ih _ e2)
 | nilp _ ih=>intro es e; simp only [D.cps,D.cp] at e; split at e <;> cases e; rename_i e1 e2; cases e1; exact .nilp (ih _ e2)
 | p r off b hb _ ih=>intro es e; simp only [D.cps,D.cp] at e; split at e <;> cases e; rename_i e1 e2; cases e1; exact .p r off b hb (ih _ e2)
 | q cs off b o us hu h1 hc _ _ ih=>intro es e; simp only [D.cps,D.cp] at e; split at e <;> cases e; rename_i e1 e2; cases e1; exact .q cs off b o us hu h1 hc (ih _ e2)
 | ic ty d v hc _ _ ih=>intro es e; simp only [D.cps,D.cp] at e; split at e <;> cases e; rename_i e1 e2; cases e1; exact .ic ty d v hc (ih _ e2)
 | bm nm d v hc _ _ ih=>intro es e; simp only [D.cps,D.cp] at e; split at e <;> cases e; rename_i e1 e2; cases e1; exact .bm nm d v hc (ih _ e2)
 | nili _ ih=>intro es e; simp only [D.cps,D.cp] at e; split at e <;> cases e; rename_i e1 e2; cases e1; exact .nili (ih _ e2)
 | fn g cs us hg hc _ _ ih=>intro es e; simp only [D.cps,D.cp] at e; split at e <;> cases e; rename_i e1 e2; cases e1; exact .fn g cs us hg hc (ih _ e2)
 | nilf _ ih=>intro es e; simp only [D.cps,D.cp] at e; split at e <;> cases e; rename_i e1 e2; cases e1; exact .nilf (ih _ e2)
 | mp r _ ih=>intro es e; simp only [D.cps,D.cp] at e; split at e <;> cases e; rename_i e1 e2; cases e1; exact .mp r (ih _ e2)
 | mo r b hb _ ih=>intro es e; simp only [D.cps,D.cp] at e; split at e <;> cases e; rename_i e1 e2; cases e1; exact .mo r b hb (ih _ e2)
 | u _ ih=>intro es e; simp only [D.cps,D.cp] at e; split at e <;> cases e; rename_i e1 e2; cases e1; exact .u (ih _ e2)
theorem fzs_append:∀ (a b:List D),D.fzs (a ++ b)=D.fzs a ++ D.fzs b
 | [],_=>rfl
 | d :: a,b=>by simp [D.fzs,fzs_append a b]
theorem fzs_cells (d:D):(D.fz d).cells=D.fzs d.cells:=by
 cases d <;> try rfl
 rename_i k sz xs
 cases k <;> rfl
theorem fzs_length:∀ (a:List D),(D.fzs a).length=a.length
 | [] => rfl
 | d :: a=>by simp [D.fzs,fzs_length a]
theorem fzs_map:∀ (a:List D),D.fzs a=a.map D.fz
 | [] => rfl
 | d :: a=>by simp [D.fzs,fzs_map a]
theorem cellsOf_fzs:∀ (xs:List D),cellsOf (D.fzs xs)=D.fzs (cellsOf xs)
 | [] => rfl
 | d :: xs=>by
  have:=cellsOf_fzs xs
  simp only [cellsOf,D.fzs,List.flatMap_cons] at this ⊢
  rw [this,fzs_cells,fzs_append]
theorem cellsOf_length {sz:Nat}:∀ {xs:List D},(∀ x ∈ xs,x.cells.length=sz) → (cellsOf xs).length=xs.length * sz
 | [],_=>by simp [cellsOf]
 | d :: xs,h=>by
  have h1:=h d (by simp)
  have h2:=cellsOf_length (xs:=xs) (fun x hx=>h x (by simp [hx]))
  simp only [cellsOf,List.flatMap_cons,List.length_append,List.length_cons] at h2 ⊢
  rw [h1,h2,Nat.add_mul]; omega
structure Set (im im':Nat → Nat → Option Value) (w:World) (F:List Nat):Prop where
 keep:∀ b j v,im b j=some v → im' b j=some v
 same:∀ b,b ∉ F → ∀ j,im' b j=im b j
 cell:∀ b j v,im' b j=some v → im b j=some v ∨ w.cell? ⟨b,j,none⟩=some v
theorem Set.refl (im:Nat → Nat → Option Value) (w:World) (F:List Nat):Set im im w F:=⟨fun _ _ _ h=>h,fun _ _ _=>rfl,fun _ _ _ h=>.inl h⟩
theorem Set.mono {im im' w F G} (h:Set im im' w F) (hs:∀ b ∈ F,b ∈ G):Set im im' w G:=⟨h.keep,fun b hb=>h.same b (fun hf=>hb (hs b hf)),h.cell⟩
theorem Set.join {im i1 i2 w F G} (h1 : Set im i1 w G) (h2 : Set im i2 w F) (hd : ∀ b ∈ G, b ∉ F) :
    ∃ i3,Set im i3 w (G ++ F) ∧ (∀ b j v,i1 b j=some v → i3 b j=some v) ∧ (∀ b j v,i2 b j=some v → i3 b j=some v) ∧ (∀ b ∈ G,∀ j,i3 b j=i1 b j) ∧ (∀ b,b ∉ G → ∀ j,i3 b j=i2 b j):=by
 refine ⟨fun b j=>if b ∈ G then i1 b j else i2 b j,⟨?_,?_,?_⟩,?_,?_,?_,?_⟩
 ·intro b j v h
  try dsimp only
  split
  ·exact h1.keep _ _ _ h
  ·exact h2.keep _ _ _ h
 ·intro b hb j
  simp only [List.mem_append,not_or] at hb
  try dsimp only
  rw [if_neg hb.1]; exact h2.same b hb.2 j
 ·intro b j v h
  try dsimp only at h
  split at h
  ·exact h1.cell _ _ _ h
  ·exact h2.cell _ _ _ h
 ·intro b j v h
  try dsimp only
  split
  ·exact h
  ·rename_i hb; exact h2.keep _ _ _ ((h1.same b hb j) ▸ h)
 ·intro b j v h
  try dsimp only
  split
  ·rename_i hb; exact h1.keep _ _ _ ((h2.same b (hd b hb) j) ▸ h)
  ·exact h
 ·intro b hb j; try dsimp only
  rw [if_pos hb]
 ·intro b hb j; try dsimp only
  rw [if_neg hb]
theorem Set.trans {im i1 i2 w F G} (h1:Set im i1 w F) (h2:Set i1 i2 w G):Set im i2 w (F ++ G) :=
 ⟨fun b j v h => h2.keep _ _ _ (h1.keep _ _ _ h), fun b hb j => by simp only [List.mem_append, not_or] at hb; rw [h2.same b hb.2, h1.same b hb.1],
  fun b j v h=>(h2.cell _ _ _ h).elim (h1.cell _ _ _) .inr⟩
theorem Set.block {im : Nat → Nat → Option Value} {w : World} (b o : Nat) (us : List Value) (hi : ∀ j, im b j = none) (hu : ∀ j v, us[j]? = some v → w.cell? ⟨b, o + j, none⟩ = some v) :
    ∃ im',Set im im' w [b] ∧ (∀ j v,us[j]? = some v → im' b (o + j)=some v) ∧ (∀ j,o + us.length ≤ j → im' b j=none):=by
 refine ⟨fun c j=>if c=b then (if o ≤ j then us[j - o]? else none) else im c j,⟨?_,?_,?_⟩,?_,?_⟩
 ·intro c j v h
  try dsimp only
  split
  ·rename_i e; subst e; rw [hi] at h; cases h
  ·exact h
 ·intro c hc j; try dsimp only
  rw [if_neg (by simpa using hc)]
 ·intro c j v h
  try dsimp only at h
  split at h
  ·rename_i e; subst e
   split at h
   ·rename_i ho
    have:=hu _ _ h
    rw [show o + (j - o)=j by omega] at this
    exact .inr this
   ·cases h
  ·exact .inl h
 ·intro j v h; try dsimp only
  rw [if_pos rfl,if_pos (by omega),show o + j - o=j by omega]; exact h
 ·intro j hj; try dsimp only
  rw [if_pos rfl]; split
  ·rw [List.getElem?_eq_none (by omega)]
  ·rfl
theorem RVs.fz {im gl w ds vs F} (h:RVs im gl w ds vs F) (hn:F.Nodup):∃ im',Set im im' w F ∧ RVs im' gl w (D.fzs ds) vs [] := by
 induction h with
 | nil=>exact ⟨im,.refl _ _ _,.nil⟩
 | b x _ ih=>obtain ⟨i,h1,h2⟩:=ih hn; exact ⟨i,h1,.b x h2⟩
 | i k n _ ih=>obtain ⟨i,h1,h2⟩:=ih hn; exact ⟨i,h1,.i k n h2⟩
 | f k n _ ih=>obtain ⟨i,h1,h2⟩:=ih hn; exact ⟨i,h1,.f k n h2⟩
 | s x _ ih=>obtain ⟨i,h1,h2⟩:=ih hn; exact ⟨i,h1,.s x h2⟩
 | nilp _ ih=>obtain ⟨i,h1,h2⟩:=ih hn; exact ⟨i,h1,.nilp h2⟩
 | p r off b hb _ ih=>obtain ⟨i,h1,h2⟩:=ih hn; exact ⟨i,h1,.p r off b hb h2⟩
 | q cs off b o us hu h1 hc _ _ ih =>
  obtain ⟨i,k1,k2⟩:=ih hn
  exact ⟨i,k1,.q cs off b o us (fun j v e=>k1.keep _ _ _ (hu j v e)) h1 (hc.frame k1.keep (fun _ _ e=>e) (by simp)) k2⟩
 | lnil k sz _ ih =>
  obtain ⟨i,h1,h2⟩:=ih hn
  cases k <;> exact ⟨i,h1,.lnil _ sz h2⟩
 | lez k hk sz x cap hn' _ ih =>
  obtain ⟨i,h1,h2⟩:=ih hn
  rcases hk with rfl | rfl
  all_goals exact ⟨i,h1,.lez _ (by simp) sz x cap hn' h2⟩
 | lz k hk sz xs b o cap us hcap hn' hs hu h1 hc _ _ ih =>
  obtain ⟨i,k1,k2⟩:=ih hn
  rcases hk with rfl | rfl
  all_goals exact ⟨i,k1,.lz _ (by simp) sz xs b o cap us hcap hn' hs (fun j v e=>k1.keep _ _ _ (hu j v e)) h1 (hc.frame k1.keep (fun _ _ e=>e) (by simp)) k2⟩
 | lo sz xs b o cap us hcap hs hu h1 hr hi hc _ _ ih =>
  obtain ⟨i,k1,k2⟩:=ih (by simp at hn; exact hn.2)
  exact ⟨i,k1.mono (fun c hc=>by simp [hc]),.lz _ (.inl rfl) sz xs b o cap us hcap (by simp) hs (fun j v e=>k1.keep _ _ _ (hu j v e)) h1 (hc.frame k1.keep (fun _ _ e=>e) (by simp)) k2⟩
 | @lx ds vs F G sz xs b o cap us hcap hs hu h1 hr hi hc _ ihc ih =>
  simp only [List.nodup_cons,List.nodup_append,List.mem_append,not_or] at hn
  obtain ⟨⟨hb1,hb2⟩,hG,hF,hGF⟩:=hn
  obtain ⟨ic,c1,c2⟩:=ihc hG
  obtain ⟨ir,r1,r2⟩:=ih hF
  obtain ⟨ib,b1,b2,b3⟩:=Set.block (im:=im) (w:=w) b o us hi hu
  obtain ⟨i3,s3,s31,s32,_,_⟩:=c1.join r1 (fun c hc hf=>hGF c hc c hf rfl)
  obtain ⟨i4,s4,s41,s42,s43,_⟩:=b1.join s3 (by simp [hb1,hb2])
  refine ⟨i4,s4,?_⟩
  have:=RVs.lz (im:=i4) (gl:=gl) (w:=w) .z (.inl rfl) sz (D.fzs xs) b o cap us (by rw [fzs_length]; exact hcap) (by simp)
   (by intro x hx; rw [fzs_map] at hx; obtain ⟨y,hy,rfl⟩:=List.mem_map.1 hx; rw [fzs_cells,fzs_length]; exact hs y hy)
   (fun j v e=>s41 _ _ _ (b2 j v e)) h1 (by rw [cellsOf_fzs]; exact c2.frame (fun _ _ _ e=>s42 _ _ _ (s31 _ _ _ e)) (fun _ _ e=>e) (by simp))
   (r2.frame (fun _ _ _ e=>s42 _ _ _ (s32 _ _ _ e)) (fun _ _ e=>e) (by simp))
  rw [fzs_length] at this
  exact this
 | @a ds vs F G cs us h1 hc _ ihc ih =>
  simp only [List.nodup_append] at hn
  obtain ⟨hG,hF,hGF⟩:=hn
  obtain ⟨ic,c1,c2⟩:=ihc hG
  obtain ⟨ir,r1,r2⟩:=ih hF
  obtain ⟨i3,s3,s31,s32,_,_⟩:=c1.join r1 (fun c hc hf=>hGF c hc c hf rfl)
  exact ⟨i3,s3,.a (G:=[]) _ us h1 (c2.frame s31 (fun _ _ e=>e) (by simp)) (r2.frame s32 (fun _ _ e=>e) (by simp))⟩
 | @t ds vs F G cs us hc _ ihc ih =>
  simp only [List.nodup_append] at hn
  obtain ⟨hG,hF,hGF⟩:=hn
  obtain ⟨ic,c1,c2⟩:=ihc hG
  obtain ⟨ir,r1,r2⟩:=ih hF
  obtain ⟨i3,s3,s31,s32,_,_⟩:=c1.join r1 (fun c hc hf=>hGF c hc c hf rfl)
  exact ⟨i3,s3,.t (G:=[]) _ us (c2.frame s31 (fun _ _ e=>e) (by simp)) (r2.frame s32 (fun _ _ e=>e) (by simp))⟩
 | ic ty d v hc _ _ ih=>obtain ⟨i,k1,k2⟩:=ih hn; exact ⟨i,k1,.ic ty d v (hc.frame k1.keep (fun _ _ e=>e) (by simp)) k2⟩
 | bm nm d v hc _ _ ih=>obtain ⟨i,k1,k2⟩:=ih hn; exact ⟨i,k1,.bm nm d v (hc.frame k1.keep (fun _ _ e=>e) (by simp)) k2⟩
 | nili _ ih=>obtain ⟨i,h1,h2⟩:=ih hn; exact ⟨i,h1,.nili h2⟩
 | fn g cs us hg hc _ _ ih=>obtain ⟨i,k1,k2⟩:=ih hn; exact ⟨i,k1,.fn g cs us hg (hc.frame k1.keep (fun _ _ e=>e) (by simp)) k2⟩
 | nilf _ ih=>obtain ⟨i,h1,h2⟩:=ih hn; exact ⟨i,h1,.nilf h2⟩
 | mp r _ ih=>obtain ⟨i,h1,h2⟩:=ih hn; exact ⟨i,h1,.mp r h2⟩
 | mo r b hb _ ih=>obtain ⟨i,h1,h2⟩:=ih hn; exact ⟨i,h1,.mo r b hb h2⟩
 | u _ ih=>obtain ⟨i,h1,h2⟩:=ih hn; exact ⟨i,h1,.u h2⟩
 | w v _ ih=>obtain ⟨i,h1,h2⟩:=ih hn; exact ⟨i,h1,.w v h2⟩
theorem RVs.fo {im gl w ds vs F} (h:RVs im gl w ds vs F) (hn:F.Nodup):∃ im' F',Set im im' w F ∧ F'.Sublist F ∧ RVs im' gl w (D.fos ds) vs F':=by
 induction h with
 | nil=>exact ⟨im,[],.refl _ _ _,.slnil,.nil⟩
 | b x _ ih=>obtain ⟨i,F',h1,hf,h2⟩:=ih hn; exact ⟨i,F',h1,hf,.b x h2⟩
 | i k n _ ih=>obtain ⟨i,F',h1,hf,h2⟩:=ih hn; exact ⟨i,F',h1,hf,.i k n h2⟩
 | f k n _ ih=>obtain ⟨i,F',h1,hf,h2⟩:=ih hn; exact ⟨i,F',h1,hf,.f k n h2⟩
 | s x _ ih=>obtain ⟨i,F',h1,hf,h2⟩:=ih hn; exact ⟨i,F',h1,hf,.s x h2⟩
 | nilp _ ih=>obtain ⟨i,F',h1,hf,h2⟩:=ih hn; exact ⟨i,F',h1,hf,.nilp h2⟩
 | p r off b hb _ ih=>obtain ⟨i,F',h1,hf,h2⟩:=ih hn; exact ⟨i,F',h1,hf,.p r off b hb h2⟩
 | q cs off b o us hu h1 hc _ _ ih =>
  obtain ⟨i,F',k1,hf,k2⟩:=ih hn
  exact ⟨i,F',k1,hf,.q cs off b o us (fun j v e=>k1.keep _ _ _ (hu j v e)) h1 (hc.frame k1.keep (fun _ _ e=>e) (by simp)) k2⟩
 | lnil k sz _ ih =>
  obtain ⟨i,F',h1,hf,h2⟩:=ih hn
  cases k <;> exact ⟨i,F',h1,hf,.lnil _ sz h2⟩
 | lez k hk sz x cap hn' _ ih =>
  obtain ⟨i,F',h1,hf,h2⟩:=ih hn
  rcases hk with rfl | rfl
  all_goals exact ⟨i,F',h1,hf,.lez _ (by simp) sz x cap hn' h2⟩
 | lz k hk sz xs b o cap us hcap hn' hs hu h1 hc _ _ ih =>
  obtain ⟨i,F',k1,hf,k2⟩:=ih hn
  rcases hk with rfl | rfl
  all_goals exact ⟨i,F',k1,hf,.lz _ (by simp) sz xs b o cap us hcap hn' hs (fun j v e=>k1.keep _ _ _ (hu j v e)) h1 (hc.frame k1.keep (fun _ _ e=>e) (by simp)) k2⟩
 | lo sz xs b o cap us hcap hs hu h1 hr hi hc _ _ ih =>
  obtain ⟨i,F',k1,hf,k2⟩:=ih (by simp at hn; exact hn.2)
  exact ⟨i,b :: F',k1.mono (fun c hc=>by simp [hc]),hf.cons_cons b,.lo sz xs b o cap us hcap hs (fun j v e=>k1.keep _ _ _ (hu j v e)) h1 hr (fun j hj=>(k1.same b (by simp at hn; exact hn.1) j).trans (hi j hj)) (hc.frame k1.keep (fun _ _ e=>e) (by simp)) k2⟩
 | @lx ds vs F G sz xs b o cap us hcap hs hu h1 hr hi hc _ _ ih =>
  simp only [List.nodup_cons,List.nodup_append,List.mem_append,not_or] at hn
  obtain ⟨⟨hb1,hb2⟩,hG,hF,hGF⟩:=hn
  obtain ⟨ic,c1,c2⟩:=hc.fz hG
  obtain ⟨ir,F',r1,hf,r2⟩:=ih hF
  obtain ⟨ib,b1,b2,b3⟩:=Set.block (im:=im) (w:=w) b o us hi hu
  obtain ⟨i3,s3,s31,s32,_,s34⟩:=c1.join r1 (fun c hc hf=>hGF c hc c hf rfl)
  obtain ⟨i4,s4,s41,s42,s43,s44⟩:=b1.join s3 (by simp [hb1,hb2])
  refine ⟨i4,b :: F',s4,(hf.trans (List.sublist_append_right G F)).cons_cons b,?_⟩
  have hl:us.length=xs.length * sz:=by rw [← hc.length]; exact cellsOf_length hs
  have:=RVs.lo (im:=i4) (gl:=gl) (w:=w) sz (D.fzs xs) b o cap us (by rw [fzs_length]; exact hcap)
   (by intro x hx; rw [fzs_map] at hx; obtain ⟨y,hy,rfl⟩:=List.mem_map.1 hx; rw [fzs_cells,fzs_length]; exact hs y hy)
   (fun j v e=>s41 _ _ _ (b2 j v e)) h1 hr (fun j hj=>(s43 b (by simp) j).trans (b3 j (by rw [hl]; rw [fzs_length] at hj; exact hj)))
   (by rw [cellsOf_fzs]; exact c2.frame (fun _ _ _ e=>s42 _ _ _ (s31 _ _ _ e)) (fun _ _ e=>e) (by simp))
   (r2.frame (fun _ _ _ e=>s42 _ _ _ (s32 _ _ _ e)) (fun _ _ e=>e) (by
    intro c hc
    have hcF:=hf.subset hc
    have hcb:c ≠ b:=fun e=>hb2 (e ▸ hcF)
    have hcG:c ∉ G:=fun e=>hGF c e c hcF rfl
    exact ⟨fun j=>by rw [s44 c (by simpa using hcb),s34 c hcG],rfl⟩))
  rw [fzs_length] at this
  exact this
 | @a ds vs F G cs us h1 hc _ ihc ih =>
  simp only [List.nodup_append] at hn
  obtain ⟨hG,hF,hGF⟩:=hn
  obtain ⟨ic,G',c1,cg,c2⟩:=ihc hG
  obtain ⟨ir,F',r1,rf,r2⟩:=ih hF
  obtain ⟨i3,s3,s31,s32,s33,s34⟩:=c1.join r1 (fun c hc hf=>hGF c hc c hf rfl)
  exact ⟨i3,G' ++ F',s3,cg.append rf,.a _ us h1 (c2.frame s31 (fun _ _ e=>e) (fun c hc=>⟨s33 c (cg.subset hc),rfl⟩)) (r2.frame s32 (fun _ _ e=>e) (fun c hc=>⟨s34 c (fun e=>hGF c e c (rf.subset hc) rfl),rfl⟩))⟩
 | @t ds vs F G cs us hc _ ihc ih =>
  simp only [List.nodup_append] at hn
  obtain ⟨hG,hF,hGF⟩:=hn
  obtain ⟨ic,G',c1,cg,c2⟩:=ihc hG
  obtain ⟨ir,F',r1,rf,r2⟩:=ih hF
  obtain ⟨i3,s3,s31,s32,s33,s34⟩:=c1.join r1 (fun c hc hf=>hGF c hc c hf rfl)
  exact ⟨i3,G' ++ F',s3,cg.append rf,.t _ us (c2.frame s31 (fun _ _ e=>e) (fun c hc=>⟨s33 c (cg.subset hc),rfl⟩)) (r2.frame s32 (fun _ _ e=>e) (fun c hc=>⟨s34 c (fun e=>hGF c e c (rf.subset hc) rfl),rfl⟩))⟩
 | ic ty d v hc _ _ ih=>obtain ⟨i,F',k1,hf,k2⟩:=ih hn; exact ⟨i,F',k1,hf,.ic ty d v (hc.frame k1.keep (fun _ _ e=>e) (by simp)) k2⟩
 | bm nm d v hc _ _ ih=>obtain ⟨i,F',k1,hf,k2⟩:=ih hn; exact ⟨i,F',k1,hf,.bm nm d v (hc.frame k1.keep (fun _ _ e=>e) (by simp)) k2⟩
 | nili _ ih=>obtain ⟨i,F',h1,hf,h2⟩:=ih hn; exact ⟨i,F',h1,hf,.nili h2⟩
 | fn g cs us hg hc _ _ ih=>obtain ⟨i,F',k1,hf,k2⟩:=ih hn; exact ⟨i,F',k1,hf,.fn g cs us hg (hc.frame k1.keep (fun _ _ e=>e) (by simp)) k2⟩
 | nilf _ ih=>obtain ⟨i,F',h1,hf,h2⟩:=ih hn; exact ⟨i,F',h1,hf,.nilf h2⟩
 | mp r _ ih=>obtain ⟨i,F',h1,hf,h2⟩:=ih hn; exact ⟨i,F',h1,hf,.mp r h2⟩
 | mo r b hb _ ih=>obtain ⟨i,F',h1,hf,h2⟩:=ih hn; exact ⟨i,F',h1,hf,.mo r b hb h2⟩
 | u _ ih=>obtain ⟨i,F',h1,hf,h2⟩:=ih hn; exact ⟨i,F',h1,hf,.u h2⟩
 | w v _ ih=>obtain ⟨i,F',h1,hf,h2⟩:=ih hn; exact ⟨i,F',h1,hf,.w v h2⟩
theorem nrs_append (n:Nat):∀ (a b:List D),D.nrs n (a ++ b)=(D.nrs n a && D.nrs n b)
 | [],_=>by simp [D.nrs]
 | d :: a,b=>by simp [D.nrs,nrs_append n a b,Bool.and_assoc]
theorem nrs_cells (n:Nat) (d:D):D.nrs n d.cells=D.nr n d:=by cases d <;> simp [D.cells,D.nrs,D.nr]
theorem nrs_cellsOf (n:Nat):∀ (xs:List D),D.nrs n (cellsOf xs)=D.nrs n xs
 | [] => rfl
 | d :: xs=>by
  have:=nrs_cellsOf n xs
  simp only [cellsOf,List.flatMap_cons,nrs_append,nrs_cells,D.nrs] at this ⊢
  rw [this]
theorem RVs.nr {im gl w ds vs F} (n:Nat) (h:RVs im gl w ds vs F) (hn:D.nrs n ds=true):RVs im (fun r=>if r < n then gl r else none) w ds vs F:=by
 induction h with
 | nil=>exact .nil
 | b x _ ih=>exact .b x (ih (by simpa [D.nrs,D.nr] using hn))
 | i k n _ ih=>exact .i k n (ih (by simpa [D.nrs,D.nr] using hn))
 | f k n _ ih=>exact .f k n (ih (by simpa [D.nrs,D.nr] using hn))
 | s x _ ih=>exact .s x (ih (by simpa [D.nrs,D.nr] using hn))
 | nilp _ ih=>exact .nilp (ih (by simpa [D.nrs,D.nr] using hn))
 | p r off b hb _ ih =>
  simp only [D.nrs,D.nr,Bool.and_eq_true,decide_eq_true_eq] at hn
  exact .p r off b (by simp [hn.1,hb]) (ih hn.2)
 | q cs off b o us hu h1 _ _ ihc ih =>
  simp only [D.nrs,D.nr,Bool.and_eq_true] at hn
  exact .q cs off b o us hu h1 (ihc hn.1) (ih hn.2)
 | lnil k sz _ ih=>exact .lnil k sz (ih (by simpa [D.nrs,D.nr] using hn))
 | lez k hk sz x cap hn' _ ih=>exact .lez k hk sz x cap hn' (ih (by simpa [D.nrs,D.nr] using hn))
 | lz k hk sz xs b o cap us hcap hn' hs hu h1 _ _ ihc ih =>
  simp only [D.nrs,D.nr,Bool.and_eq_true] at hn
  exact .lz k hk sz xs b o cap us hcap hn' hs hu h1 (ihc (by rw [nrs_cellsOf]; exact hn.1)) (ih hn.2)
 | lo sz xs b o cap us hcap hs hu h1 hr hi _ _ ihc ih =>
  simp only [D.nrs,D.nr,Bool.and_eq_true] at hn
  exact .lo sz xs b o cap us hcap hs hu h1 hr hi (ihc (by rw [nrs_cellsOf]; exact hn.1)) (ih hn.2)
 | lx sz xs b o cap us hcap hs hu h1 hr hi _ _ ihc ih =>
  simp only [D.nrs,D.nr,Bool.and_eq_true] at hn
  exact .lx sz xs b o cap us hcap hs hu h1 hr hi (ihc (by rw [nrs_cellsOf]; exact hn.1)) (ih hn.2)
 | a cs us h1 _ _ ihc ih=>simp only [D.nrs,D.nr,Bool.and_eq_true] at hn; exact .a cs us h1 (ihc hn.1) (ih hn.2)
 | t cs us _ _ ihc ih=>simp only [D.nrs,D.nr,Bool.and_eq_true] at hn; exact .t cs us (ihc hn.1) (ih hn.2)
 | ic ty d v _ _ ihc ih=>simp only [D.nrs,D.nr,Bool.and_eq_true] at hn; exact .ic ty d v (ihc (by simp [D.nrs,hn.1])) (ih hn.2)
 | bm nm d v _ _ ihc ih=>simp only [D.nrs,D.nr,Bool.and_eq_true] at hn; exact .bm nm d v (ihc (by simp [D.nrs,hn.1])) (ih hn.2)
 | nili _ ih=>exact .nili (ih (by simpa [D.nrs,D.nr] using hn))
 | fn g cs us hg _ _ ihc ih=>simp only [D.nrs,D.nr,Bool.and_eq_true] at hn; exact .fn g cs us hg (ihc hn.1) (ih hn.2)
 | nilf _ ih=>exact .nilf (ih (by simpa [D.nrs,D.nr] using hn))
 | mp r _ ih=>exact .mp r (ih (by simpa [D.nrs,D.nr] using hn))
 | mo r b hb _ ih =>
  simp only [D.nrs,D.nr,Bool.and_eq_true,decide_eq_true_eq] at hn
  exact .mo r b (by simp [hn.1,hb]) (ih hn.2)
 | u _ ih=>exact .u (ih (by simpa [D.nrs,D.nr] using hn))
 | w v _ ih=>exact .w v (ih (by simpa [D.nrs,D.nr] using hn))
end Go.AM

namespace Go.AM
inductive Site where
 | sl (k:Nat)
 | ob (k:Nat)
 | gb (r:Nat)
 deriving DecidableEq
structure Dj (F:Site → List Nat) (Fx:List Nat):Prop where
 dis:∀ x y,x ≠ y → ∀ b ∈ F x,b ∉ F y
 dix:∀ x,∀ b ∈ F x,b ∉ Fx
 nd:∀ x,(F x).Nodup
 ndx:Fx.Nodup
def ups (F:Site → List Nat) (y:Site) (l:List Nat):Site → List Nat:=fun x=>if x=y then l else F x
theorem ups_same (F:Site → List Nat) (y:Site) (l:List Nat):ups F y l y=l:=by simp [ups]
theorem ups_ne (F:Site → List Nat) {x y:Site} (l:List Nat) (h:x ≠ y):ups F y l x=F x:=by simp [ups,h]
def Tot (F:Site → List Nat) (Fx:List Nat) (b:Nat):Prop:=b ∈ Fx ∨ ∃ x,b ∈ F x
theorem Tot.sub {F:Site → List Nat} {Fx Fx':List Nat} {b:Nat} (h:Tot F Fx' b) (hs:∀ b ∈ Fx',b ∈ Fx):Tot F Fx b:=h.imp (hs b) id
theorem Tot.ups {F:Site → List Nat} {Fx:List Nat} {b:Nat} {y:Site} {l:List Nat} (h:Tot (ups F y l) Fx b):b ∈ l ∨ Tot F Fx b:=by
 rcases h with h | ⟨x,h⟩
 ·exact .inr (.inl h)
 ·unfold AM.ups at h; split at h
  ·exact .inl h
  ·exact .inr (.inr ⟨x,h⟩)
theorem Dj.sub {F Fx} (h:Dj F Fx) {Fx':List Nat} (hs:∀ b ∈ Fx',b ∈ Fx) (hn:Fx'.Nodup):Dj F Fx':=⟨h.dis,fun x b hb hx=>h.dix x b hb (hs b hx),h.nd,hn⟩
theorem Dj.out {F Fx} (h:Dj F Fx) (y:Site):Dj (ups F y []) (Fx ++ F y):=by
 refine ⟨?_,?_,?_,?_⟩
 ·intro x z hxz b hb hb'
  unfold ups at hb hb'
  split at hb
  ·cases hb
  ·split at hb'
   ·cases hb'
   ·exact h.dis x z hxz b hb hb'
 ·intro x b hb hx
  unfold ups at hb
  split at hb
  ·cases hb
  ·rename_i hne
   rcases List.mem_append.1 hx with hx | hx
   ·exact h.dix x b hb hx
   ·exact h.dis x y hne b hb hx
 ·intro x; unfold ups; split
  ·exact List.nodup_nil
  ·exact h.nd x
 ·rw [List.nodup_append]; exact ⟨h.ndx,h.nd y,fun b hb c hc e=>h.dix y c hc (e ▸ hb)⟩
theorem Dj.clr {F Fx} (h:Dj F Fx) (y:Site):Dj (ups F y []) Fx:=(h.out y).sub (fun b hb=>by simp [hb]) h.ndx
theorem Dj.into {F L Fx} (h:Dj F (L ++ Fx)) (y:Site):Dj (ups F y L) Fx:=by
 have hn:=h.ndx
 rw [List.nodup_append] at hn
 obtain ⟨h1,h2,h3⟩:=hn
 refine ⟨?_,?_,?_,h2⟩
 ·intro x z hxz b hb hb'
  unfold ups at hb hb'
  split at hb <;> split at hb'
  ·rename_i e e'; exact hxz (e.trans e'.symm)
  ·exact h.dix z b hb' (by simp [hb])
  ·exact h.dix x b hb (by simp [hb'])
  ·exact h.dis x z hxz b hb hb'
 ·intro x b hb hx
  unfold ups at hb
  split at hb
  ·exact h3 b hb b hx rfl
  ·exact h.dix x b hb (by simp [hx])
 ·intro x; unfold ups; split
  ·exact h1
  ·exact h.nd x
theorem Dj.new {F Fx} (h:Dj F Fx) {b:Nat} (hb:¬ Tot F Fx b):Dj F (b :: Fx) :=
 ⟨h.dis,fun x c hc hx=>by
  rcases List.mem_cons.1 hx with rfl | hx
  ·exact hb (.inr ⟨x,hc⟩)
  ·exact h.dix x c hc hx,h.nd,List.nodup_cons.2 ⟨fun hx=>hb (.inl hx),h.ndx⟩⟩
structure G where
 im:Nat → Nat → Option Value
 gl:Nat → Option (Nat × Bool)
 lc:Nat → Option (Sum Nat Value)
 gp:Nat → Option Nat
structure Ba where
 w0:World
 im0:Nat → Nat → Option Value
 gl0:Nat → Option (Nat × Bool)
 sg0:List (List D)
 F0:List Nat
 nt:Nat
abbrev G.rv (g:G) (w:World):=RVs g.im g.gl w
def Own (g:G) (w:World) (b:Nat) (cs:List D) (F:List Nat):Prop :=
 ∃ c t f F',w.heap[b]? = some (.cells c t f) ∧ (∀ j,j < c.size → w.frozen? ⟨b,j,none⟩=false) ∧ (∀ v ∈ c.toList,v.oneCell'=true) ∧ (∀ j,g.im b j=none) ∧ F=b :: F' ∧ g.rv w cs c.toList F'
def plHdr (g:G) (w:World) (pl:Pl) (v:Value):Prop:=match pl with
 | .ob k off=>match g.lc k with
  | some (.inl b)=>w.cell? ⟨b,off,none⟩=some v
  | some (.inr u)=>off=0 ∧ v=u
  | none=>False
 | .gb r off=>∃ b,g.gp r=some b ∧ w.cell? ⟨b,off,none⟩=some v
def qOK (g:G) (w:World) (s:St) (q:Q) (v:Value):Prop:=match q with
 | .ptr k off=>∃ b,g.lc k=some (.inl b) ∧ v=.pointer (some ⟨b,off,none⟩)
 | .hdr k=>g.lc k=some (.inr v)
 | .hd pl=>plHdr g w pl v
 | .el pl ix fo=>∃ b o len cap sz xs,plHdr g w pl (.slice (some ⟨b,o,none⟩) len cap) ∧ s.at pl=some (.l .x sz xs) ∧ ix < xs.length ∧ v=.pointer (some ⟨b,o + ix * sz + fo,none⟩)
def rOK (g:G) (w:World) (s:St) (r:R) (v:Value) (F:List Nat):Prop:=match r with
 | .v d=>g.rv w [d] [v] F
 | .q q=>F=[] ∧ qOK g w s q v
def obOK (g:G) (w:World) (k:Nat) (cs:List D) (F:List Nat):Prop:=match g.lc k with
 | some (.inl b)=>Own g w b cs F
 | some (.inr v)=>∃ d,cs=[d] ∧ g.rv w [d] [v] F
 | none=>False
def OwnM (g:G) (w:World) (b:Nat) (cs:List D) (F:List Nat):Prop :=
 ∃ en ck es,w.heap[b]? = some (.map en ck) ∧ (∀ j,g.im b j=none) ∧ F=[b] ∧ cs=.u :: es ∧ g.rv w es (en.toList.flatMap fun e=>[e.key,e.val]) []
def gbOK (g:G) (w:World) (r:Nat) (cs:List D) (F:List Nat):Prop:=(∃ b,g.gp r=some b ∧ Own g w b cs F) ∨ (g.gp r=none ∧ cs=[] ∧ F=[]) ∨ (∃ b,g.gp r=none ∧ g.gl r=some (b,true) ∧ OwnM g w b cs F)
theorem Own.framed {g g' : G} {w w' : World} {b : Nat} {cs : List D} {F : List Nat} (h : Own g w b cs F) (hg : ∀ r b, g.gl r = some b → g'.gl r = some b) (hm : ∀ b j v, g.im b j = some v → g'.im b j = some v)
    (hF:∀ b ∈ F,(∀ j,g'.im b j=g.im b j) ∧ w'.heap[b]? = w.heap[b]?):Own g' w' b cs F:=by
 obtain ⟨c,t,f,F',k1,k2,k3,k4,rfl,k6⟩:=h
 obtain ⟨e1,e2⟩:=hF b (by simp)
 exact ⟨c,t,f,F',e2.trans k1,fun j hj=>(World.frozen?_of_block (w:=w) (w':=w') (a:=⟨b,j,none⟩) e2).trans (k2 j hj),k3,fun j=>(e1 j).trans (k4 j),rfl,k6.frame hm hg (fun c hc=>hF c (by simp [hc]))⟩
theorem gbOK.framed {g g' : G} {w w' : World} {r : Nat} {cs : List D} {F : List Nat} (h : gbOK g w r cs F) (hp : g'.gp r = g.gp r) (hg : ∀ r b, g.gl r = some b → g'.gl r = some b) (hm : ∀ b j v, g.im b j = some v → g'.im b j = some v)
    (hF:∀ b ∈ F,(∀ j,g'.im b j=g.im b j) ∧ w'.heap[b]? = w.heap[b]?):gbOK g' w' r cs F:=by
 rcases h with ⟨b,h1,h2⟩ | ⟨h1,h2,h3⟩ | ⟨b,h1,h2,en,ck,es,k1,k2,rfl,k4,k5⟩
 ·exact .inl ⟨b,hp.trans h1,h2.framed hg hm hF⟩
 ·exact .inr (.inl ⟨hp.trans h1,h2,h3⟩)
 ·obtain ⟨e1,e2⟩:=hF b (by simp)
  exact .inr (.inr ⟨b,hp.trans h1,hg _ _ h2,en,ck,es,e2.trans k1,fun j=>(e1 j).trans (k2 j),rfl,k4,k5.frame hm hg (by simp)⟩)
theorem gbOK.own {g:G} {w:World} {r b:Nat} {cs:List D} {F:List Nat} (h:gbOK g w r cs F) (hb:g.gp r=some b):Own g w b cs F:=by
 rcases h with ⟨b',h1,h2⟩ | ⟨h1,_,_⟩ | ⟨b',h1,_⟩
 ·rw [hb] at h1; cases h1; exact h2
 ·rw [hb] at h1; cases h1
 ·rw [hb] at h1; cases h1
theorem gbOK.ex {g:G} {w:World} {r b0:Nat} {cs:List D} {F:List Nat} (h:gbOK g w r cs F) (hn:cs ≠ []) (hm:g.gl r=some (b0,false)):∃ b,g.gp r=some b ∧ Own g w b cs F:=by
 rcases h with h | ⟨_,h,_⟩ | ⟨b',_,h,_⟩
 ·exact h
 ·exact absurd h hn
 ·rw [hm] at h; cases h
theorem ne_of_get {cs:List D} {j:Nat} {d:D} (h:cs[j]? = some d):cs ≠ [] := by rintro rfl; simp at h
structure Sm (B:Ba) (g:G) (F:Site → List Nat) (s:St) (a:Act) (w:World) (ds:List D) (vs:List Value) (Fx:List Nat):Prop where
 df:a.defers=[]
 nt:a.tmps.size=B.nt
 sl:∀ k r,look k s.fr=some r → ∃ v,a.tmps[k]? = some v ∧ rOK g w s r v (F (.sl k))
 ob:∀ k cs,look k s.ob=some cs → obOK g w k cs (F (.ob k))
 gb:∀ r cs,s.sg[r]? = some cs → gbOK g w r cs (F (.gb r))
 ex:g.rv w ds vs Fx
 lcd:∀ k x,g.lc k=some x → ∃ cs,look k s.ob=some cs
 dslot:∀ k,look k s.fr=none → F (.sl k)=[]
 dob:∀ k,look k s.ob=none → F (.ob k)=[]
 dgb:∀ r,s.sg[r]? = none → F (.gb r)=[]
 dj:Dj F Fx
 lt:∀ b,Tot F Fx b → b < w.heap.size ∧ (b ∈ B.F0 ∨ B.w0.heap.size ≤ b)
 imok:∀ b j v,g.im b j=some v → w.cell? ⟨b,j,none⟩=some v
 im0:∀ b j v,B.im0 b j=some v → g.im b j=some v
 gl0:∀ r b,B.gl0 r=some b → g.gl r=some b
 glb:∀ r b,g.gl r=some b → r < s.sg.length
 gpl:∀ r b,g.gp r=some b → g.gl r=some (b,false)
 gl0b:∀ r b,B.gl0 r=some b → r < B.sg0.length
 sgl:B.sg0.length ≤ s.sg.length
 keep:∀ b,b < B.w0.heap.size → b ∉ B.F0 → w.heap[b]? = B.w0.heap[b]? ∧ ∀ j,g.im b j=B.im0 b j
 os:w.os=B.w0.os
 tape:w.tape=B.w0.tape
 out:w.output=B.w0.output
 hs:B.w0.heap.size ≤ w.heap.size
 refs:∀ m r c0 c1,r < s.lo → B.sg0[r]? = some c0 → s.sg[r]? = some c1 → D.nrs m c0=true → D.nrs m c1=true
def Sim (B:Ba) (s:St) (a:Act) (w:World):Prop:=∃ g F,Sm B g F s a w [] [] []
theorem look_drp {α : Type} (k j:Nat):∀ (l:List (Nat × α)),look j (drp k l)=if j=k then none else look j l
 | [] => by simp [drp,look]
 | (i,x) :: r=>by
  have ih:=look_drp k j r
  simp only [drp]
  split
  ·rename_i e; rw [ih]; split
   ·rfl
   ·rename_i h; simp only [look]; rw [if_neg (by omega)]
  ·rename_i e; simp only [look]
   split
   ·rename_i h; rw [if_neg (by omega)]
   ·rw [ih]
def fgt (g:Q → Bool):R → R
 | .v d=>.v d
 | .q x=>if g x then .v .w else .q x
theorem look_forget (g:Q → Bool) (j:Nat):∀ (l:List (Nat × R)),look j (forget g l)=(look j l).map (fgt g)
 | [] => rfl
 | (i,.v d) :: r=>by
  have ih:=look_forget g j r
  simp only [forget,look]
  split
  ·rfl
  ·exact ih
 | (i,.q x) :: r=>by
  have ih:=look_forget g j r
  simp only [forget,look]
  split
  ·rfl
  ·exact ih
theorem look_keep {α : Type} (j:Nat) (m:List (Nat × α)):∀ (ks:List Nat),look j (keep ks m)=if j ∈ ks then look j m else none
 | [] => by simp [keep,look]
 | k :: ks=>by
  have ih:=look_keep j m ks
  simp only [keep]
  split
  ·rename_i x hx
   simp only [look,List.mem_cons]
   by_cases e:k=j
   ·subst e; simp [hx]
   ·rw [if_neg e,ih]; simp [show ¬ j=k from fun h=>e h.symm]
  ·rename_i hx
   rw [ih]
   by_cases e:j=k
   ·subst e; simp [hx]
   ·simp [e]
theorem qOK.of_same {g g' : G} {w w' : World} {s s' : St} {q : Q} {v : Value} (h : qOK g w s q v)
    (hl:∀ k x,g.lc k=some x → g'.lc k=some x) (hp:∀ pl u,plHdr g w pl u → plHdr g' w' pl u) (ha:∀ pl sz xs,s.at pl=some (.l .x sz xs) → ∃ ys,s'.at pl=some (.l .x sz ys) ∧ ys.length=xs.length):qOK g' w' s' q v:=by
 cases q with
 | ptr k off=>obtain ⟨b,h1,h2⟩:=h; exact ⟨b,hl _ _ h1,h2⟩
 | hdr k=>exact hl _ _ h
 | hd pl=>exact hp _ _ h
 | el pl ix fo =>
  obtain ⟨b,o,len,cap,sz,xs,h1,h2,h3,h4⟩:=h
  obtain ⟨ys,h5,h6⟩:=ha _ _ _ h2
  exact ⟨b,o,len,cap,sz,ys,hp _ _ h1,h5,by omega,h4⟩
theorem Sm.weaken {B g F s a w ds vs Fx} (h : Sm B g F s a w ds vs Fx) (ds' : List D) (vs' : List Value) (Fx' : List Nat) (hx : g.rv w ds' vs' Fx') (hs : ∀ b ∈ Fx', b ∈ Fx) (hn : Fx'.Nodup) :
    Sm B g F s a w ds' vs' Fx' :=
 {h with ex:=hx,dj:=h.dj.sub hs hn,lt:=fun b hb=>h.lt b (hb.sub hs) }
theorem Sm.take {B g F s a w ds vs Fx} (h : Sm B g F s a w ds vs Fx) {k : Nat} {r : R} (hk : look k s.fr = some r) :
    ∃ v,a.tmps[k]? = some v ∧ rOK g w s r v (F (.sl k)) ∧ (∀ d,r=.v d → Sm B g (ups F (.sl k) []) { s with fr:=drp k s.fr } a w (ds ++ [d]) (vs ++ [v]) (Fx ++ F (.sl k))) ∧
     Sm B g (ups F (.sl k) []) { s with fr:=drp k s.fr } a w ds vs Fx:=by
 obtain ⟨v,hv,hr⟩:=h.sl k r hk
 have base:Sm B g (ups F (.sl k) []) { s with fr:=drp k s.fr } a w ds vs Fx :=
  {h with
   sl:=by
    intro j r' hj
    rw [look_drp] at hj
    split at hj
    ·cases hj
    ·rename_i hne
     obtain ⟨u,hu,hru⟩:=h.sl j r' hj
     exact ⟨u,hu,by rw [ups_ne _ _ (by simpa using hne)]; exact hru⟩
   ob:=fun j cs hj=>by rw [ups_ne _ _ (by simp)]; exact h.ob j cs hj
   gb:=fun j cs hj=>by rw [ups_ne _ _ (by simp)]; exact h.gb j cs hj
   dslot:=by
    intro j hj
    rw [look_drp] at hj
    split at hj
    ·rename_i e; subst e; exact ups_same _ _ _
    ·rename_i hne; rw [ups_ne _ _ (by simpa using hne)]; exact h.dslot j hj
   dob:=fun j hj=>by rw [ups_ne _ _ (by simp)]; exact h.dob j hj
   dgb:=fun j hj=>by rw [ups_ne _ _ (by simp)]; exact h.dgb j hj
   dj:=h.dj.clr _
   lt:=fun b hb=>(hb.ups).elim (fun h=>by cases h) (h.lt b) }
 refine ⟨v,hv,hr,?_,base⟩
 intro d hd
 subst hd
 have hrv:g.rv w [d] [v] (F (.sl k)):=hr
 exact { base with
  ex:=h.ex.append hrv
  dj:=h.dj.out _
  lt:=by
   intro b hb
   rcases hb with hb | ⟨x,hb⟩
   ·rcases List.mem_append.1 hb with hb | hb
    ·exact h.lt b (.inl hb)
    ·exact h.lt b (.inr ⟨_,hb⟩)
   ·exact base.lt b (.inr ⟨x,hb⟩) }
theorem rOK.of_at {g w} {s s':St} {r v F} (h:rOK g w s r v F) (ha:∀ pl,s'.at pl=s.at pl):rOK g w s' r v F:=by
 cases r with
 | v d=>exact h
 | q q=>exact ⟨h.1,h.2.of_same (fun _ _ e=>e) (fun _ _ e=>e) (fun pl sz xs e=>⟨xs,by rw [ha]; exact e,rfl⟩)⟩
theorem at_fr (s:St) (fr:List (Nat × R)) (pl:Pl):({ s with fr:=fr }:St).at pl=s.at pl:=by cases pl <;> rfl
theorem Sm.putr {B g F s a w ds vs L r v Fx} (h : Sm B g F s a w ds vs Fx) (hr : rOK g w s r v L) (hL : ∀ b ∈ L, b ∈ Fx) (hn : L.Nodup) (dst : Option Nat) (hd : ∀ k, dst = some k → k < B.nt) :
    Sim B (s.put dst r) (a.put dst v) w:=by
 cases dst with
 | none=>exact ⟨g,F,h.weaken [] [] [] .nil (by simp) List.nodup_nil⟩
 | some k =>
  have hk:=hd k rfl
  refine ⟨g,ups F (.sl k) L,{ h with df:=h.df,nt:=?nt,sl:=?sl,ob:=?ob,gb:=?gb,ex:=.nil,dslot:=?dslot,dob:=?dob,dgb:=?dgb,dj:=?dj,lt:=?lt }⟩
  case nt=>simp [Act.put,h.nt]
  case sl =>
   intro j r' hj
   simp only [St.put,look] at hj
   split at hj
   ·rename_i e; subst e
    cases hj
    refine ⟨v,?_,?_⟩
    ·simp only [Act.put]; rw [Array.getElem?_setIfInBounds_self_of_lt (by rw [h.nt]; exact hk)]
    ·rw [ups_same]
     exact hr.of_at (at_fr s _)
   ·rename_i hne
    obtain ⟨u,hu,hru⟩:=h.sl j r' hj
    refine ⟨u,?_,?_⟩
    ·simp only [Act.put]; rw [Array.getElem?_setIfInBounds_ne hne]; exact hu
    ·rw [ups_ne _ _ (by simp; omega)]
     exact hru.of_at (at_fr s _)
  case ob=>intro j cs hj; rw [ups_ne _ _ (by simp)]; exact h.ob j cs hj
  case gb=>intro j cs hj; rw [ups_ne _ _ (by simp)]; exact h.gb j cs hj
  case dslot =>
   intro j hj
   simp only [St.put,look] at hj
   split at hj
   ·cases hj
   ·rename_i hne; rw [ups_ne _ _ (by simp; omega)]; exact h.dslot j hj
  case dob=>intro j hj; rw [ups_ne _ _ (by simp)]; exact h.dob j hj
  case dgb=>intro j hj; rw [ups_ne _ _ (by simp)]; exact h.dgb j hj
  case dj=>exact Dj.into (L:=L) (Fx:=[]) (by simpa using h.dj.sub hL hn) _
  case lt =>
   intro b hb
   rcases hb.ups with hb | hb
   ·exact h.lt b (.inl (hL b hb))
   ·exact h.lt b (hb.sub (by simp))
theorem Sm.put {B g F s a w d v Fx} (h : Sm B g F s a w [d] [v] Fx) (dst : Option Nat) (hd : ∀ k, dst = some k → k < B.nt) :
    Sim B (s.put dst (.v d)) (a.put dst v) w :=
 h.putr (r:=.v d) h.ex (fun _ e=>e) h.dj.ndx dst hd
end Go.AM

namespace Go.AM
mutual
def cr:D → Value → Bool
 | .b x,.bool y=>x == y
 | .i k n,.int k' n'=>k == k' && n == n'
 | .f k n,.float k' n'=>k == k' && n == n'
 | .s x,.string y=>x.data == y.data
 | .nilp,.pointer none=>true
 | .l _ _ [],.slice none 0 0=>true
 | .a cs,.agg us=>crs cs us.toList && us.toList.all Value.oneCell'
 | .nili,.nilIface=>true
 | .nilf,.nilFunc=>true
 | .mp,.map _=>true
 | _,_=>false
def crs:List D → List Value → Bool
 | [],[] => true
 | d :: ds,v :: vs=>cr d v && crs ds vs
 | _,_=>false
end
mutual
theorem cr_rv {im gl w}:∀ (d:D) (v:Value),cr d v=true → RVs im gl w [d] [v] []
 | .b x,.bool y,h=>by simp [cr] at h; subst h; exact .b _ .nil
 | .i k n,.int k' n',h=>by simp [cr] at h; obtain ⟨rfl,rfl⟩:=h; exact .i _ _ .nil
 | .f k n,.float k' n',h=>by simp [cr] at h; obtain ⟨rfl,rfl⟩:=h; exact .f _ _ .nil
 | .s ⟨x⟩,.string ⟨y⟩,h=>by simp [cr] at h; subst h; exact .s _ .nil
 | .nilp,.pointer none,_=>.nilp .nil
 | .l k sz [],.slice none 0 0,_=>.lnil k sz .nil
 | .a cs,.agg us,h=>by
  simp only [cr,Bool.and_eq_true,List.all_eq_true] at h
  have:=RVs.a (G:=[]) (F:=[]) cs us.toList h.2 (crs_rv cs us.toList h.1) (.nil (im:=im) (gl:=gl) (w:=w))
  simpa using this
 | .nili,.nilIface,_=>.nili .nil
 | .nilf,.nilFunc,_=>.nilf .nil
 | .mp,.map r,_=>.mp r .nil
theorem crs_rv {im gl w}:∀ (ds:List D) (vs:List Value),crs ds vs=true → RVs im gl w ds vs []
 | [],[],_=>.nil
 | d :: ds,v :: vs,h=>by
  simp only [crs,Bool.and_eq_true] at h
  have:=(cr_rv (im:=im) (gl:=gl) (w:=w) d v h.1).append (crs_rv ds vs h.2)
  simpa using this
end
def chkX (x:X) (o:Operand):Bool:=match x,o with
 | .t n,.tmp m=>n == m
 | .k n,.tmp m=>n == m
 | .c d,.const v=>cr d v
 | .c (.fn g []),.func f=>g == f && decide (f < Q0)
 | _,_=>false
theorem rx_fr {x s r s'} (h:rx x s=some (r,s')):∃ fr,s'={ s with fr:=fr }:=by
 unfold rx at h
 split at h
 ·cases h; exact ⟨s.fr,rfl⟩
 ·split at h
  ·split at h
   ·cases h; exact ⟨s.fr,rfl⟩
   ·cases h
  ·cases h; exact ⟨s.fr,rfl⟩
  ·cases h
 ·split at h
  ·cases h
  ·cases h; exact ⟨_,rfl⟩
  ·cases h
theorem rx_at {x s r s'} (h:rx x s=some (r,s')) (pl:Pl):s'.at pl=s.at pl:=by
 obtain ⟨fr,rfl⟩:=rx_fr h; exact at_fr s fr pl
theorem qOK.of_at {g w} {s s':St} {q v} (h:qOK g w s q v) (ha:∀ pl,s'.at pl=s.at pl):qOK g w s' q v :=
 h.of_same (fun _ _ e=>e) (fun _ _ e=>e) (fun pl sz xs e=>⟨xs,by rw [ha]; exact e,rfl⟩)
theorem eval_tmp {a:Act} {n:Nat} {v:Value} (h:a.tmps[n]? = some v):a.eval (.tmp n)=v:=by simp [Act.eval,h]
theorem rx_sim {B g F s a w ds vs Fx x o r s'} (h : Sm B g F s a w ds vs Fx) (hc : chkX x o = true) (hx : rx x s = some (r, s')) :
    (∃ d F' Fy,r=.v d ∧ Sm B g F' s' a w (ds ++ [d]) (vs ++ [a.eval o]) (Fx ++ Fy)) ∨ (∃ q F',r=.q q ∧ Sm B g F' s' a w ds vs Fx ∧ qOK g w s' q (a.eval o)):=by
 unfold rx at hx
 split at hx
 ·rename_i d
  cases hx
  left
  have hrv:g.rv w [d] [a.eval o] [] := by
   cases o with
   | const v=>exact cr_rv d v (by simpa [chkX] using hc)
   | func f =>
    cases d <;> simp [chkX] at hc
    rename_i gg cs
    cases cs <;> simp at hc
    obtain ⟨rfl,hc⟩:=hc
    exact .fn (us:=[]) _ _ hc .nil .nil
   | tmp n=>simp [chkX] at hc
   | global n=>simp [chkX] at hc
  exact ⟨d,F,[],rfl,by simpa using { h with ex:=by simpa using h.ex.append hrv }⟩
 ·rename_i n
  have ho:o=.tmp n:=by
   cases o <;> simp [chkX] at hc
   rw [hc]
  subst ho
  split at hx
  ·rename_i d hl
   split at hx
   ·rename_i d' hcp
    cases hx
    left
    obtain ⟨v,hv,hr⟩:=h.sl n _ hl
    have hrv:g.rv w [d'] [a.eval (.tmp n)] [] := by
     rw [eval_tmp hv]
     exact RVs.cp (ds:=[d]) hr [d'] (by simp [D.cps,hcp])
    exact ⟨d',F,[],rfl,by simpa using { h with ex:=by simpa using h.ex.append hrv }⟩
   ·cases hx
  ·rename_i q hl
   cases hx
   right
   obtain ⟨v,hv,hr⟩:=h.sl n _ hl
   exact ⟨q,F,rfl,h,by rw [eval_tmp hv]; exact hr.2⟩
  ·cases hx
 ·rename_i n
  have ho:o=.tmp n:=by
   cases o <;> simp [chkX] at hc
   rw [hc]
  subst ho
  split at hx
  ·cases hx
  ·rename_i r' hnw hl
   cases hx
   obtain ⟨v,hv,hr,h1,h2⟩:=h.take hl
   cases r with
   | v d=>left; exact ⟨d,_,_,rfl,by rw [eval_tmp hv]; exact h1 d rfl⟩
   | q q=>right; exact ⟨q,_,rfl,h2,by rw [eval_tmp hv]; exact hr.2.of_at (at_fr s _)⟩
  ·cases hx
theorem rxv_some {x s d s'} (h:rxv x s=some (d,s')):rx x s=some (.v d,s'):=by
 unfold rxv at h; split at h
 ·cases h; assumption
 ·cases h
theorem rxv_sim {B g F s a w ds vs Fx x o d s'} (h : Sm B g F s a w ds vs Fx) (hc : chkX x o = true) (hx : rxv x s = some (d, s')) :
    ∃ F' Fy,Sm B g F' s' a w (ds ++ [d]) (vs ++ [a.eval o]) (Fx ++ Fy):=by
 rcases rx_sim h hc (rxv_some hx) with ⟨d',F',Fy,e,h'⟩ | ⟨q,F',e,_⟩
 ·cases e; exact ⟨F',Fy,h'⟩
 ·cases e
theorem rxv_at {x s d s'} (h:rxv x s=some (d,s')) (pl:Pl):s'.at pl=s.at pl:=rx_at (rxv_some h) pl
def chkXs:List X → List Operand → Bool
 | [],[] => true
 | x :: xs,o :: os=>chkX x o && chkXs xs os
 | _,_=>false
theorem rxs_sim {B g a w} : ∀ {xs : List X} {os : List Operand} {F s ds vs Fx es s'}, Sm B g F s a w ds vs Fx → chkXs xs os = true → rxs xs s = some (es, s') →
    ∃ F' Fy,Sm B g F' s' a w (ds ++ es) (vs ++ os.map a.eval) (Fx ++ Fy) ∧ es.length=os.length
 | [],[],F,s,ds,vs,Fx,es,s',h,_,hx=>by
  simp [rxs] at hx; obtain ⟨rfl,rfl⟩:=hx
  exact ⟨F,[],by simpa using h,rfl⟩
 | x :: xs,o :: os,F,s,ds,vs,Fx,es,s',h,hc,hx=>by
  simp only [chkXs,Bool.and_eq_true] at hc
  unfold rxs at hx
  split at hx
  ·rename_i d s1 h1
   split at hx
   ·rename_i es' s2 h2
    cases hx
    obtain ⟨F1,Fy,k1⟩:=rxv_sim h hc.1 h1
    obtain ⟨F2,Fz,k2,hl⟩:=rxs_sim k1 hc.2 h2
    exact ⟨F2,Fy ++ Fz,by simpa [List.append_assoc] using k2,by simp [hl]⟩
   ·cases hx
  ·cases hx
theorem Sm.imlt {B g F s a w ds vs Fx} (h:Sm B g F s a w ds vs Fx) {b:Nat} (hb:w.heap.size ≤ b) (j:Nat):g.im b j=none:=by
 cases e:g.im b j with
 | none=>rfl
 | some v=>have:=block_lt_of_cell (h.imok b j v e); simp at this; omega
theorem plHdr.of_blocks {g:G} {w w':World} {pl:Pl} {v:Value} (h:plHdr g w pl v) (hb:∀ b,b < w.heap.size → w'.heap[b]? = w.heap[b]?):plHdr g w' pl v:=by
 cases pl with
 | ob k off =>
  simp only [plHdr] at h ⊢
  cases e:g.lc k with
  | none=>rw [e] at h; exact h
  | some x =>
   rw [e] at h
   cases x with
   | inl b=>exact (World.cell?_of_block (w:=w) (w':=w') (a:=⟨b,off,none⟩) (hb b (block_lt_of_cell h))).trans h
   | inr u=>exact h
 | gb r off =>
  obtain ⟨b,h1,h2⟩:=h
  exact ⟨b,h1,(World.cell?_of_block (w:=w) (w':=w') (a:=⟨b,off,none⟩) (hb b (block_lt_of_cell h2))).trans h2⟩
theorem Own.of_block {g:G} {w w':World} {b:Nat} {cs:List D} {F:List Nat} (h:Own g w b cs F) (hb:∀ c ∈ F,w'.heap[c]? = w.heap[c]?):Own g w' b cs F:=by
 obtain ⟨c,t,f,F',h1,h2,h3,h4,rfl,h6⟩:=h
 have e:=hb b (by simp)
 refine ⟨c,t,f,F',e.trans h1,fun j hj=>(World.frozen?_of_block (w:=w) (w':=w') (a:=⟨b,j,none⟩) e).trans (h2 j hj),h3,h4,rfl,h6.frame (fun _ _ _ e=>e) (fun _ _ e=>e) (fun c hc=>⟨fun _=>rfl,hb c (by simp [hc])⟩)⟩
theorem Sm.world {B g F s a w ds vs Fx} (h : Sm B g F s a w ds vs Fx) {w' : World} (hb : ∀ b, b < w.heap.size → w'.heap[b]? = w.heap[b]?) (hs : w.heap.size ≤ w'.heap.size)
    (ho:w'.os=w.os) (ht:w'.tape=w.tape) (hu:w'.output=w.output):Sm B g F s a w' ds vs Fx:=by
 have fr:∀ {L ds vs},(∀ b ∈ L,Tot F Fx b) → g.rv w ds vs L → g.rv w' ds vs L:=fun hL hr=>hr.frame (fun _ _ _ e=>e) (fun _ _ e=>e) (fun c hc=>⟨fun _=>rfl,hb c (h.lt c (hL c hc)).1⟩)
 have hown:∀ {b cs L},(∀ b ∈ L,Tot F Fx b) → Own g w b cs L → Own g w' b cs L:=fun hL ho=>ho.of_block (fun c hc=>hb c (h.lt c (hL c hc)).1)
 exact { h with
  sl:=by
   intro k r hk
   obtain ⟨v,hv,hr⟩:=h.sl k r hk
   refine ⟨v,hv,?_⟩
   cases r with
   | v d=>exact fr (fun b hb=>.inr ⟨_,hb⟩) hr
   | q q=>exact ⟨hr.1,hr.2.of_same (fun _ _ e=>e) (fun _ _ e=>e.of_blocks hb) (fun pl sz xs e=>⟨xs,e,rfl⟩)⟩
  ob:=by
   intro k cs hk
   have:=h.ob k cs hk
   unfold obOK at this ⊢
   cases e:g.lc k with
   | none=>rw [e] at this; exact this
   | some x =>
    rw [e] at this
    cases x with
    | inl b=>exact hown (fun b hb=>.inr ⟨_,hb⟩) this
    | inr v=>obtain ⟨d,h1,h2⟩:=this; exact ⟨d,h1,fr (fun b hb=>.inr ⟨_,hb⟩) h2⟩
  gb:=by
   intro r cs hr
   exact (h.gb r cs hr).framed rfl (fun _ _ e=>e) (fun _ _ _ e=>e) (fun b hbm=>⟨fun _=>rfl,hb b (h.lt b (.inr ⟨_,hbm⟩)).1⟩)
  ex:=fr (fun b hb=>.inl hb) h.ex
  lt:=fun b hb=>⟨Nat.lt_of_lt_of_le (h.lt b hb).1 hs,(h.lt b hb).2⟩
  imok:=fun b j v e=>(World.cell?_of_block (w:=w) (w':=w') (a:=⟨b,j,none⟩) (hb b (block_lt_of_cell (h.imok b j v e)))).trans (h.imok b j v e)
  keep:=fun b h1 h2=>⟨(hb b (Nat.lt_of_lt_of_le h1 h.hs)).trans (h.keep b h1 h2).1,(h.keep b h1 h2).2⟩
  os:=ho.trans h.os
  tape:=ht.trans h.tape
  out:=hu.trans h.out
  hs:=Nat.le_trans h.hs hs }
theorem Sm.alloc {B g F s a w ds vs Fx} (h:Sm B g F s a w ds vs Fx) (o:Obj):Sm B g F s a (w.alloc o) ds vs Fx :=
 h.world (fun b hb=>heap_alloc_old w o b hb) (by simp) rfl rfl rfl
theorem Sm.drew {B g F s a w ds vs Fx} (h:Sm B g F s a w ds vs Fx):Sm B g F s a w.drew ds vs Fx:=h.world (fun _ _=>rfl) (Nat.le_refl _) rfl rfl rfl
theorem Sm.new {B g F s a w ds vs Fx} (h : Sm B g F s a w ds vs Fx) {b : Nat} (hb : ¬ Tot F Fx b) (hlt : b < w.heap.size) (h0 : B.w0.heap.size ≤ b) {ds' : List D} {vs' : List Value}
    (hx:g.rv w ds' vs' (b :: Fx)):Sm B g F s a w ds' vs' (b :: Fx) :=
 {h with
  ex:=hx
  dj:=h.dj.new hb
  lt:=by
   intro c hc
   rcases hc with hc | hc
   ·rcases List.mem_cons.1 hc with rfl | hc
    ·exact ⟨hlt,.inr h0⟩
    ·exact h.lt c (.inl hc)
   ·exact h.lt c (.inr hc) }
theorem Sm.newx {B g F s a w ds vs Fx} (h : Sm B g F s a w ds vs Fx) (sz : Nat) (xs : List D) (us : List Value) (cells : Array Value) (e : TypeId) (cap : Nat)
    (hx:g.rv w (cellsOf xs) us Fx) (h1:∀ v ∈ us,v.oneCell'=true) (hs:∀ x ∈ xs,x.cells.length=sz) (hu:∀ (j:Nat) (v:Value),us[j]? = some v → cells[j]? = some v) (hcap:xs.length ≤ cap) (hsz:cap * sz ≤ cells.size) :
    Sm B g F s a (w.alloc (.cells cells e)) [.l .x sz xs] [.slice (some ⟨w.heap.size,0,none⟩) xs.length cap] (w.heap.size :: Fx):=by
 have h':=h.alloc (.cells cells e)
 have hnt:¬ Tot F Fx w.heap.size:=fun hc=>by have:=(h.lt _ hc).1; omega
 have hnew:=heap_alloc_new w (.cells cells e)
 refine h'.new hnt (by simp) h.hs ?_
 have hcell:∀ j v,us[j]? = some v → (w.alloc (.cells cells e)).cell? ⟨w.heap.size,0 + j,none⟩=some v:=by
  intro j v hj
  rw [cell_of_row _ _ _ _ _ _ hnew,Nat.zero_add]
  exact hu j v hj
 have hroom:Room (w.alloc (.cells cells e)) w.heap.size (0 + cap * sz) :=
  ⟨cells,e,(0,0),hnew,by omega,fun j hj=>frozen_of_row _ _ _ _ _ hnew,Nat.le_refl _⟩
 have hfr:g.rv (w.alloc (.cells cells e)) (cellsOf xs) us Fx :=
  hx.frame (fun _ _ _ e=>e) (fun _ _ e=>e) (fun c hc=>⟨fun _=>rfl,heap_alloc_old w _ c (h.lt c (.inl hc)).1⟩)
 have:=RVs.lx (im:=g.im) (gl:=g.gl) sz xs w.heap.size 0 cap us hcap hs hcell h1 hroom (fun j=>h.imlt (Nat.le_refl _) j) hfr (.nil (im:=g.im) (gl:=g.gl) (w:=w.alloc (.cells cells e)))
 simpa using this
theorem wp_value {P : Program} {o : Oper} {a : Act} {w w' : World} {v : Value} {K : Act → World → Prop} {Q : Exit → Act → World → Prop}
    (h:(execOp a.eval o).run P w=.ok (.value v) w') (hk:K (a.put o.dst v) w'):o.wp P a w K Q:=by
 unfold Oper.wp; rw [h]; exact hk
theorem wp_skip' {P : Program} {o : Oper} {a : Act} {w w' : World} {K : Act → World → Prop} {Q : Exit → Act → World → Prop}
    (h:(execOp a.eval o).run P w=.ok .skip w') (hk:K (a.put o.dst undef) w'):o.wp P a w K Q:=by
 unfold Oper.wp; rw [h]; exact hk
end Go.AM

namespace Go.AM
def szT (P:Program) (t:TypeId):Option Nat:=(P.info? t).map (·.size)
def aggT (P:Program) (t:TypeId):Option Bool:=match P.underlying t with
 | some (.struct _)=>some true
 | some (.array _ _)=>some true
 | some _=>some false
 | none=>none
theorem run_isAgg {P:Program} {t:TypeId} {b:Bool} (h:aggT P t=some b) (w:World):(isAgg t).run P w=.ok b w:=by
 unfold aggT at h
 split at h <;> simp_all [isAgg,underlying]
theorem run_sizeOf {P:Program} {t:TypeId} {n:Nat} (h:szT P t=some n) (w:World):(sizeOf t).run P w=.ok n w:=by
 unfold szT at h
 cases e:P.info? t with
 | none=>simp [e] at h
 | some i=>simp [e] at h; simp [sizeOf,typeInfo,e,h]
def Done (P:Program) (B:Ba) (o:Oper) (a:Act) (w:World) (Q:Exit → Act → World → Prop) (s':St) (r:R):Prop :=
 ∀ K:Act → World → Prop,(∀ a' w',Sim B (s'.put o.dst r) a' w' → K a' w') → o.wp P a w K Q
theorem done_v {P B o a w Q g F s' d v Fx} (hd:∀ k,o.dst=some k → k < B.nt) {w':World} (hr:(execOp a.eval o).run P w=.ok (.value v) w') (h:Sm B g F s' a w' [d] [v] Fx):Done P B o a w Q s' (.v d) :=
 fun _ hk=>wp_value hr (hk _ _ (h.put o.dst hd))
theorem done_q {P B o a w Q g F s' q v ds vs Fx} (hd:∀ k,o.dst=some k → k < B.nt) {w':World} (hr:(execOp a.eval o).run P w=.ok (.value v) w') (h:Sm B g F s' a w' ds vs Fx) (hq:qOK g w' s' q v):Done P B o a w Q s' (.q q) :=
 fun _ hk=>wp_value hr (hk _ _ (h.putr (r:=.q q) (L:=[]) ⟨rfl,hq⟩ (by simp) List.nodup_nil o.dst hd))
theorem Sm.drop {B g F s a w ds vs Fx} (h:Sm B g F s a w ds vs Fx) {ds':List D} {vs':List Value} (hx:g.rv w ds' vs' []):Sm B g F s a w ds' vs' [] :=
 h.weaken ds' vs' [] hx (by simp) List.nodup_nil
theorem o_mv {P B g F s a w Q o x y dst r s' ac OO meth} (h : Sm B g F s a w [] [] []) (hd : ∀ k, o.dst = some k → k < B.nt) (hop : o.op = .move y ∨ o.op = .assign y)
    (hc:chkX x y=true) (he:evO OO meth (.mv x) s dst=some (r,s',ac)):Done P B o a w Q s' r:=by
 have hrun:(execOp a.eval o).run P w=.ok (.value (a.eval y)) w:=by rcases hop with e | e <;> simp [execOp,e]
 simp only [evO,Option.map_eq_some_iff] at he
 obtain ⟨⟨r',s1⟩,h1,h2⟩:=he
 cases h2
 rcases rx_sim h hc h1 with ⟨d,F',Fy,rfl,h'⟩ | ⟨q,F',rfl,h',hq⟩
 ·exact done_v hd hrun (by simpa using h')
 ·exact done_q hd hrun h' hq
theorem bool_inv {g w v F t} (h:RVs g.im (G.gl g) w [.b t] [v] F):v=.bool t:=by cases h; rfl
theorem float_inv {im gl w k n v F} (h:RVs im gl w [.f k n] [v] F):v=.float k n:=by cases h; rfl
theorem str_inv {im gl w n v F} (h:RVs im gl w [.s n] [v] F):v=.string n:=by cases h; rfl
theorem agg_inv {im gl w cs v F} (h:RVs im gl w [.a cs] [v] F):∃ us,v=.agg us.toArray ∧ (∀ v ∈ us,v.oneCell'=true) ∧ RVs im gl w cs us F:=by
 cases h with
 | a cs us h1 hc h=>cases h; exact ⟨us,rfl,h1,by simpa using hc⟩
theorem tup_inv {im gl w cs v F} (h:RVs im gl w [.t cs] [v] F):∃ us,v=.tuple us.toArray ∧ RVs im gl w cs us F:=by
 cases h with
 | t cs us hc h=>cases h; exact ⟨us,rfl,by simpa using hc⟩
theorem ic_inv {im gl w t d v F} (h:RVs im gl w [.ic t d] [v] F):∃ u,v=.iface t u ∧ F=[] ∧ RVs im gl w [d] [u] [] := by
 cases h with
 | ic t d u hc h=>cases h; exact ⟨u,rfl,rfl,hc⟩
theorem bm_inv {im gl w nm d v F} (h:RVs im gl w [.bm nm d] [v] F):∃ u,v=.func (.method nm) #[u] #[] ∧ F=[] ∧ RVs im gl w [d] [u] [] := by
 cases h with
 | bm nm d u hc h=>cases h; exact ⟨u,rfl,rfl,hc⟩
theorem p_inv {im gl w r off v F} (h:RVs im gl w [.p r off] [v] F):∃ b,v=.pointer (some ⟨b,off,none⟩) ∧ F=[] ∧ gl r=some (b,false):=by
 cases h with
 | p r off b hg h=>cases h; exact ⟨b,rfl,rfl,hg⟩
theorem q_inv {im gl w cs off v F} (h:RVs im gl w [.q cs off] [v] F):∃ b o us,v=.pointer (some ⟨b,o + off,none⟩) ∧ F=[] ∧ (∀ (j:Nat) (v:Value),us[j]? = some v → im b (o + j)=some v) ∧ (∀ v ∈ us,v.oneCell'=true) ∧ RVs im gl w cs us [] := by
 cases h with
 | q cs off b o us hu h1 hc h=>cases h; exact ⟨b,o,us,rfl,rfl,hu,h1,hc⟩
theorem int_inv {im gl w k n v F} (h:RVs im gl w [.i k n] [v] F):v=.int k n:=by cases h; rfl
theorem Sm.last {B g F s a w d v Fx ds vs} (h:Sm B g F s a w (ds ++ [d]) (vs ++ [v]) Fx):∃ A,g.rv w [d] [v] A:=by
 obtain ⟨us,ts,A,C,e1,e2,hl,h1,h2⟩:=RVs.append_inv ds h.ex
 obtain ⟨v',rfl⟩:=h2.single
 have:=List.append_inj' e1 rfl
 simp at this
 obtain ⟨_,rfl⟩:=this
 exact ⟨C,h2⟩
theorem o_pick {P B g F s a w Q o c x y c' x' y' dst r s' ac OO meth} (h : Sm B g F s a w [] [] []) (hd : ∀ k, o.dst = some k → k < B.nt) (hop : o.op = .pick c' x' y')
    (hc:chkX c c'=true) (hx:chkX x x'=true) (hy:chkX y y'=true) (he:evO OO meth (.pick c x y) s dst=some (r,s',ac)):Done P B o a w Q s' r:=by
 simp only [evO] at he
 split at he
 ·rename_i t s1 h1
  obtain ⟨F1,Fy,k1⟩:=rxv_sim h hc h1
  obtain ⟨A,hA⟩:=Sm.last (ds:=[]) (vs:=[]) (by simpa using k1)
  have hb:a.eval c'=.bool t:=bool_inv hA
  have k2:=k1.drop .nil
  cases t with
  | true =>
   simp only [if_true,Option.map_eq_some_iff] at he
   obtain ⟨⟨d,s2⟩,h2,h3⟩:=he
   cases h3
   obtain ⟨F2,Fz,k3⟩:=rxv_sim k2 hx h2
   exact done_v (w':=w) hd (v:=a.eval x') (by simp [execOp,hop,hb,asBool]) (by simpa using k3)
  | false =>
   simp only [Bool.false_eq_true,if_false,Option.map_eq_some_iff] at he
   obtain ⟨⟨d,s2⟩,h2,h3⟩:=he
   cases h3
   obtain ⟨F2,Fz,k3⟩:=rxv_sim k2 hy h2
   exact done_v (w':=w) hd (v:=a.eval y') (by simp [execOp,hop,hb,asBool]) (by simpa using k3)
 ·cases he
theorem Sm.two {B g F s a w d e v u Fx} (h:Sm B g F s a w [d,e] [v,u] Fx):∃ A C,Fx=A ++ C ∧ g.rv w [d] [v] A ∧ g.rv w [e] [u] C:=by
 obtain ⟨v',us,A,C,e1,e2,h1,h2⟩:=RVs.cons_inv h.ex
 cases e1
 exact ⟨A,C,e2,h1,h2⟩
theorem wrap_bits (k:IntKind) (op:BinOp) (x y:Int) (h:op=.and ∨ op=.or ∨ op=.xor ∨ op=.andNot):Op.intBits op k x y=pure (.int k (bits op k x y)):=by
 rcases h with rfl | rfl | rfl | rfl <;> rfl
theorem run_bini {P : Program} {w : World} {op : BinOp} {k : IntKind} {x y : Int} {t : TypeId} {d : D} (h : bini op k x y = some d) :
    ∃ v,(binOp op t (.int k x) (.int k y)).run P w=.ok v w ∧ ∀ im gl w,RVs im gl w [d] [v] [] := by
 cases op <;> simp [bini] at h
 case quo=>obtain ⟨h0,rfl⟩:=h; exact ⟨.int k (k.wrap (x.tdiv y)),by simp [binOp,Op.intDiv,h0],fun _ _ _=>.i _ _ .nil⟩
 case rem=>obtain ⟨h0,rfl⟩:=h; exact ⟨.int k (x.tmod y),by simp [binOp,Op.intDiv,h0],fun _ _ _=>.i _ _ .nil⟩
 all_goals subst h
 case add=>exact ⟨.int k (k.wrap (x + y)),by simp [binOp,Op.intArith],fun _ _ _=>.i _ _ .nil⟩
 case sub=>exact ⟨.int k (k.wrap (x - y)),by simp [binOp,Op.intArith],fun _ _ _=>.i _ _ .nil⟩
 case mul=>exact ⟨.int k (k.wrap (x * y)),by simp [binOp,Op.intArith],fun _ _ _=>.i _ _ .nil⟩
 case and=>exact ⟨.int k (bits .and k x y),by simp [binOp,wrap_bits],fun _ _ _=>.i _ _ .nil⟩
 case or=>exact ⟨.int k (bits .or k x y),by simp [binOp,wrap_bits],fun _ _ _=>.i _ _ .nil⟩
 case xor=>exact ⟨.int k (bits .xor k x y),by simp [binOp,wrap_bits],fun _ _ _=>.i _ _ .nil⟩
 case andNot=>exact ⟨.int k (bits .andNot k x y),by simp [binOp,wrap_bits],fun _ _ _=>.i _ _ .nil⟩
 case eql=>exact ⟨.bool (x == y),by simp [binOp,Op.intCmp],fun _ _ _=>.b _ .nil⟩
 case neq=>exact ⟨.bool (x != y),by simp [binOp,Op.intCmp],fun _ _ _=>.b _ .nil⟩
 case lss=>exact ⟨.bool (decide (x < y)),by simp [binOp,Op.intCmp],fun _ _ _=>.b _ .nil⟩
 case leq=>exact ⟨.bool (decide (x ≤ y)),by simp [binOp,Op.intCmp],fun _ _ _=>.b _ .nil⟩
 case gtr=>exact ⟨.bool (decide (x > y)),by simp [binOp,Op.intCmp],fun _ _ _=>.b _ .nil⟩
 case geq=>exact ⟨.bool (decide (x ≥ y)),by simp [binOp,Op.intCmp],fun _ _ _=>.b _ .nil⟩
theorem run_binf {P : Program} {w : World} {op : BinOp} {k : FloatKind} {x y : Nat} {t : TypeId} {d : D} (h : binf op k x y = some d) :
    ∃ v,(binOp op t (.float k x) (.float k y)).run P w=.ok v w ∧ ∀ im gl w,RVs im gl w [d] [v] [] := by
 cases op <;> simp [binf] at h <;> subst h <;> exact ⟨.bool _,by simp [binOp,Op.floatCmp],fun _ _ _=>.b _ .nil⟩
theorem run_bins {P : Program} {w : World} {op : BinOp} {x y : ByteArray} {t : TypeId} {d : D} (h : bins op x y = some d) :
    ∃ v,(binOp op t (.string x) (.string y)).run P w=.ok v w ∧ ∀ im gl w,RVs im gl w [d] [v] [] := by
 cases op <;> simp [bins] at h
 case add =>
  obtain ⟨h0,rfl⟩:=h
  exact ⟨.string (x ++ y),by simp [binOp,Op.stringOp]; omega,fun _ _ _=>.s _ .nil⟩
 all_goals subst h; exact ⟨.bool _,by simp [binOp,Op.stringOp],fun _ _ _=>.b _ .nil⟩
theorem rx2_sim {B g F s a w x y x' y' d e s1 s2} (h : Sm B g F s a w [] [] []) (hx : chkX x x' = true) (hy : chkX y y' = true) (h1 : rxv x s = some (d, s1)) (h2 : rxv y s1 = some (e, s2)) :
    ∃ F' Fy,Sm B g F' s2 a w [d,e] [a.eval x',a.eval y'] Fy:=by
 obtain ⟨F1,Fy,k1⟩:=rxv_sim h hx h1
 obtain ⟨F2,Fz,k2⟩:=rxv_sim k1 hy h2
 exact ⟨F2,_,by simpa using k2⟩
theorem o_bin {P B g F s a w Q o op t t' x y x' y' dst r s' ac OO meth} (h : Sm B g F s a w [] [] []) (hd : ∀ k, o.dst = some k → k < B.nt) (hop : o.op = .binOp op t x' y' t')
    (hx:chkX x x'=true) (hy:chkX y y'=true) (he:evO OO meth (.bin op x y) s dst=some (r,s',ac)):Done P B o a w Q s' r:=by
 simp only [evO] at he
 split at he
 ·rename_i d s1 h1
  split at he
  ·rename_i e s2 h2
   simp only [Option.map_eq_some_iff] at he
   obtain ⟨q,h3,h4⟩:=he
   cases h4
   obtain ⟨F2,Fy,k⟩:=rx2_sim h hx hy h1 h2
   obtain ⟨A,C,_,hA,hC⟩:=k.two
   have key:∃ v,(execOp a.eval o).run P w=.ok (.value v) w ∧ ∀ im gl w,RVs im gl w [q] [v] [] := by
    unfold binv at h3
    split at h3
    ·rename_i k1 n1 k2 n2
     have e1:=int_inv hA
     have e2:=int_inv hC
     split at h3
     ·split at h3
      ·cases h3
      ·cases h3
       rename_i hn
       exact ⟨.int k1 _,by simp [execOp,hop,e1,e2,eqGuard,binOp,Op.shift,hn],fun _ _ _=>.i _ _ .nil⟩
     ·split at h3
      ·cases h3
      ·cases h3
       rename_i hn
       exact ⟨.int k1 _,by simp [execOp,hop,e1,e2,eqGuard,binOp,Op.shift,hn],fun _ _ _=>.i _ _ .nil⟩
     ·split at h3
      ·rename_i he; subst he
       obtain ⟨v,hv,hr⟩:=run_bini (P:=P) (w:=w) (t:=t) h3
       refine ⟨v,?_,hr⟩
       rw [← e1,← e2] at hv
       have hg:(eqGuard op t x' y' (a.eval x') (a.eval y')).run P w=.ok () w:=by rw [e1,e2]; cases op <;> simp [eqGuard]
       simp [execOp,hop,hg,hv]
      ·cases h3
    ·rename_i k1 n1 k2 n2
     have e1:=float_inv hA
     have e2:=float_inv hC
     split at h3
     ·rename_i he; subst he
      obtain ⟨v,hv,hr⟩:=run_binf (P:=P) (w:=w) (t:=t) h3
      refine ⟨v,?_,hr⟩
      rw [← e1,← e2] at hv
      have hg:(eqGuard op t x' y' (a.eval x') (a.eval y')).run P w=.ok () w:=by rw [e1,e2]; cases op <;> simp [eqGuard]
      simp [execOp,hop,hg,hv]
     ·cases h3
    ·rename_i n1 n2
     have e1:=str_inv hA
     have e2:=str_inv hC
     obtain ⟨v,hv,hr⟩:=run_bins (P:=P) (w:=w) (t:=t) h3
     refine ⟨v,?_,hr⟩
     rw [← e1,← e2] at hv
     have hg:(eqGuard op t x' y' (a.eval x') (a.eval y')).run P w=.ok () w:=by rw [e1,e2]; cases op <;> simp [eqGuard]
     simp [execOp,hop,hg,hv]
    ·cases h3
   obtain ⟨v,hv,hr⟩:=key
   exact done_v hd hv (k.drop (hr _ _ _))
  ·cases he
 ·cases he
end Go.AM

namespace Go.AM
theorem rx1_sim {B g F s a w x x' d s1} (h : Sm B g F s a w [] [] []) (hx : chkX x x' = true) (h1 : rxv x s = some (d, s1)) :
    ∃ F' Fy,Sm B g F' s1 a w [d] [a.eval x'] Fy:=by
 obtain ⟨F1,Fy,k1⟩:=rxv_sim h hx h1
 exact ⟨F1,_,by simpa using k1⟩
theorem Sm.one {B g F s a w d v Fx} (h:Sm B g F s a w [d] [v] Fx):g.rv w [d] [v] Fx:=h.ex
theorem o_un {P B g F s a w Q o op t x x' dst r s' ac OO meth} (h : Sm B g F s a w [] [] []) (hd : ∀ k, o.dst = some k → k < B.nt) (hop : o.op = .unOp op t x')
    (hx:chkX x x'=true) (he:evO OO meth (.un op x) s dst=some (r,s',ac)):Done P B o a w Q s' r:=by
 simp only [evO] at he
 split at he
 ·rename_i d s1 h1
  simp only [Option.map_eq_some_iff] at he
  obtain ⟨q,h3,h4⟩:=he
  cases h4
  obtain ⟨F1,Fy,k⟩:=rx1_sim h hx h1
  have key:∃ v,(execOp a.eval o).run P w=.ok (.value v) w ∧ ∀ im gl w,RVs im gl w [q] [v] [] := by
   unfold unv at h3
   split at h3
   ·cases h3; rename_i k1 n1; have e1:=int_inv k.ex
    exact ⟨.int k1 _,by simp [execOp,hop,e1,Op.unary,Op.intArith],fun _ _ _=>.i _ _ .nil⟩
   ·cases h3; rename_i k1 n1; have e1:=int_inv k.ex
    exact ⟨.int k1 _,by simp only [execOp,hop,e1,Op.unary,intBits_xor]; rfl,fun _ _ _=>.i _ _ .nil⟩
   ·cases h3; have e1:=bool_inv (g:=g) k.ex
    exact ⟨.bool _,by simp [execOp,hop,e1,Op.unary],fun _ _ _=>.b _ .nil⟩
   ·cases h3
  obtain ⟨v,hv,hr⟩:=key
  exact done_v hd hv (k.drop (hr _ _ _))
 ·cases he
def chkEc (P:Program) (t:TypeId) (c:Ec):Bool:=match c,P.underlying t with
 | .bo,some .bool=>true
 | .it,some (.int _)=>true
 | .fl,some (.float _)=>true
 | .st,some .string=>true
 | .pt,some (.pointer e)=>(szT P e).isSome
 | .ni,some (.interface _)=>true
 | .cl,some (.func ..)=>true
 | _,_=>false
theorem eq1_run {P : Program} {w : World} {d : Nat} {t : TypeId} {c : Ec} {x y : D} {r : Bool} {im gl w1 v u A C} (hc : chkEc P t c = true) (he : eq1 c x y = some r)
    (hx:RVs im gl w1 [x] [v] A) (hy:RVs im gl w1 [y] [u] C):(Op.equalIn (d + 1) t v u).run P w=.ok r w:=by
 unfold chkEc at hc
 split at hc
 ·rename_i hu; simp only [eq1] at he; split at he
  ·cases he; cases hx; cases hy; simp [Op.equalIn,underlying,hu]
  ·cases he
 ·rename_i hu; simp only [eq1] at he; split at he
  ·split at he
   ·rename_i hk; cases he; cases hx; cases hy; simp [Op.equalIn,underlying,hu,hk]
   ·cases he
  ·cases he
 ·rename_i hu; simp only [eq1] at he; split at he
  ·split at he
   ·rename_i hk; cases he; cases hx; cases hy; simp [Op.equalIn,underlying,hu,hk]
   ·cases he
  ·cases he
 ·rename_i hu; simp only [eq1] at he; split at he
  ·cases he; cases hx; cases hy; simp [Op.equalIn,underlying,hu]
  ·cases he
 ·rename_i hu; simp only [eq1] at he; split at he
  ·cases he; cases hx; cases hy; simp [Op.equalIn,underlying,hu]
  ·cases he; cases hx; cases hy; simp [Op.equalIn,underlying,hu]
  ·cases he; cases hx; cases hy; simp [Op.equalIn,underlying,hu]
  ·split at he
   ·rename_i heq
    obtain ⟨rfl,rfl⟩:=heq
    cases he
    obtain ⟨n,hn⟩:=Option.isSome_iff_exists.1 hc
    cases hx with
    | p _ _ b hg h1 =>
     cases h1
     cases hy with
     | p _ _ b' hg' h2 =>
      cases h2
      rw [hg] at hg'
      cases hg'
      have hz:=fun w=>run_sizeOf hn w
      by_cases h0:n=0
      ·simp [Op.equalIn,underlying,hu,hz,h0]
      ·simp [Op.equalIn,underlying,hu,hz,h0,sameAddr]
   ·cases he
  ·cases he
 ·rename_i hu; simp only [eq1] at he; split at he
  ·cases he; cases hx; cases hy; simp [Op.equalIn,underlying,hu]
  ·cases he; cases hx; cases hy; simp [Op.equalIn,underlying,hu]
  ·cases he; cases hx; cases hy; simp [Op.equalIn,underlying,hu]
  ·cases he
 ·rename_i hu; simp only [eq1] at he; split at he
  ·cases he; cases hx; cases hy; simp [Op.equalIn,underlying,hu]
  ·cases he; cases hx; cases hy; simp [Op.equalIn,underlying,hu]
  ·cases he; cases hx; cases hy; simp [Op.equalIn,underlying,hu]
  ·cases he
 ·cases hc
def isC:Operand → Bool
 | .const _=>true
 | _=>false
def chkG (P:Program) (t:TypeId) (x y:Operand):Bool:=match P.underlying t with
 | some (.interface ms)=>ms.isEmpty || isC x || isC y
 | _=>true
theorem guard_in {P : Program} {w : World} {t : TypeId} {ms : Array (String × TypeId)} (hu : P.underlying t = some (.interface ms)) (hms : ms.isEmpty = true) :
    (Op.eqGuardIn Op.maxDepth t .nilIface .nilIface).run P w=.ok false w:=by
 obtain ⟨d,hd⟩:∃ d,Op.maxDepth=d + 1:=⟨9999,rfl⟩
 rw [hd]
 simp [Op.eqGuardIn,underlying,hu,hms]
theorem guard_nil {P : Program} {w : World} {op : BinOp} {t : TypeId} {x y : Operand} (hop : op = .eql ∨ op = .neq) (h : isC x = true ∨ isC y = true ∨ (Op.eqGuardIn Op.maxDepth t .nilIface .nilIface).run P w = .ok false w) :
    (eqGuard op t x y .nilIface .nilIface).run P w=.ok () w:=by
 rcases hop with rfl | rfl
 all_goals
  rcases h with h | h | h
  ·cases x <;> simp [isC] at h
   simp [eqGuard]
  ·cases y <;> simp [isC] at h
   simp [eqGuard]
  ·cases x <;> cases y <;> simp [eqGuard,h]
theorem guard_other {P : Program} {w : World} {op : BinOp} {t : TypeId} {x y : Operand} {v u : Value} (h1 : ¬ (v = .nilIface ∧ u = .nilIface)) (h2 : ¬ ((∃ p, v = .agg p) ∧ ∃ q, u = .agg q)) :
    (eqGuard op t x y v u).run P w=.ok () w:=by
 cases op <;> first
  | (simp [eqGuard]; done)
  | (cases v <;> cases u <;> first
      | (simp [eqGuard]; done)
      | (exfalso; exact h1 ⟨rfl,rfl⟩)
      | (exfalso; exact h2 ⟨⟨_,rfl⟩,_,rfl⟩))
theorem eq1_agg {c:Ec} {ds:List D} {b:D} {r:Bool} (h:eq1 c (.a ds) b=some r):False:=by
 cases c <;> simp [eq1] at h
theorem guard_run {P : Program} {w : World} {op : BinOp} {t : TypeId} {x y : Operand} {c : Ec} {a b : D} {r : Bool} {im gl w1 v u A C} (hop : op = .eql ∨ op = .neq) (hg : chkG P t x y = true) (hc : chkEc P t c = true) (he : eq1 c a b = some r)
    (hx:RVs im gl w1 [a] [v] A) (hy:RVs im gl w1 [b] [u] C):(eqGuard op t x y v u).run P w=.ok () w:=by
 by_cases hn:v=.nilIface ∧ u=.nilIface
 ·obtain ⟨rfl,rfl⟩:=hn
  have ha:a=.nili ∨ a=.w:=by cases hx <;> simp
  have hci:c=.ni:=by
   rcases ha with rfl | rfl <;> cases c <;> simp [eq1] at he ⊢
  subst hci
  have hu:∃ ms,P.underlying t=some (.interface ms):=by
   unfold chkEc at hc
   split at hc <;> first
    | (exact ⟨_,‹_›⟩)
    | (simp at *; done)
    | (cases hc; done)
  obtain ⟨ms,hu⟩:=hu
  simp only [chkG,hu,Bool.or_eq_true] at hg
  refine guard_nil hop ?_
  rcases hg with (hg | hg) | hg
  ·exact .inr (.inr (guard_in hu hg))
  ·exact .inl hg
  ·exact .inr (.inl hg)
 ·refine guard_other hn ?_
  rintro ⟨⟨p,rfl⟩,q,rfl⟩
  cases hx with
  | a cs us h1 hcc h=>exact eq1_agg he
  | w v h=>cases c <;> simp [eq1] at he
end Go.AM

namespace Go.AM
theorem run_part {P:Program} {w:World} {t:TypeId} {cs:Array Value} {off:Nat} {v:Value} (h:aggT P t=some false) (hv:cs[off]? = some v):(part t cs off).run P w=.ok v w:=by
 simp [part,run_isAgg h,hv]
theorem run_part_agg {P:Program} {w:World} {t:TypeId} {cs:Array Value} {off n:Nat} (h:aggT P t=some true) (hn:szT P t=some n):(part t cs off).run P w=.ok (.agg (cs.extract off (off + n))) w:=by
 simp [part,run_isAgg h,run_sizeOf hn]
def sameSz (P:Program) (t:TypeId) (k:Nat):Bool:=aggT P t == some false && k == 1 || aggT P t == some true && szT P t == some k
abbrev Tk:=TypeId → List Ec → Option (List Ec)
def takeF (P:Program) (g:Tk):List Field → Nat → Tk
 | [],_,_,cs=>some cs
 | f :: fs, j, t, cs => if f.name != "_" && f.offset == j then match g f.type cs with
     | some r=>if sameSz P f.type (cs.length - r.length) && decide (r.length ≤ cs.length) then takeF P g fs (j + (cs.length - r.length)) t r else none
     | none=>none
  else none
def takeA (P:Program) (g:Tk) (e:TypeId) (m:Nat):Nat → List Ec → Option (List Ec)
 | 0,cs=>some cs
 | n + 1,cs=>match g e cs with
  | some r=>if sameSz P e m && decide (r.length + m=cs.length) then takeA P g e m n r else none
  | none=>none
def takeT (P:Program):Nat → Tk
 | 0,_,_=>none
 | n + 1,t,cs=>match P.underlying t with
  | some (.struct fs)=>if P.stoodInHeld t then none else takeF P (takeT P n) fs.toList 0 t cs
  | some (.array m e)=>(match szT P e with | some k=>takeA P (takeT P n) e k m cs | none=>none)
  | _=>match cs with
   | c :: r=>if aggT P t == some false && chkEc P t c then some r else none
   | [] => none
theorem eqs_len:∀ {cs:List Ec} {ds es:List D} {b:Bool},eqs cs ds es=some b → ds.length=cs.length ∧ es.length=cs.length
 | [],[],[],_,_=>⟨rfl,rfl⟩
 | c :: cs,d :: ds,e :: es,b,h=>by
  simp only [eqs] at h
  split at h
  ·rename_i x y h1 h2
   have:=eqs_len h2
   simp [this]
  ·cases h
 | [],[],_ :: _,_,h=>by simp [eqs] at h
 | [],_ :: _,_,_,h=>by simp [eqs] at h
 | _ :: _,[],_,_,h=>by simp [eqs] at h
 | _ :: _,_ :: _,[],_,h=>by simp [eqs] at h
theorem eqs_app : ∀ {cs1 cs2 : List Ec} {ds es : List D} {b : Bool}, eqs (cs1 ++ cs2) ds es = some b →
    ∃ d1 d2 e1 e2 b1 b2,ds=d1 ++ d2 ∧ es=e1 ++ e2 ∧ eqs cs1 d1 e1=some b1 ∧ eqs cs2 d2 e2=some b2 ∧ b=(b1 && b2)
 | [],cs2,ds,es,b,h=>⟨[],ds,[],es,true,b,rfl,rfl,rfl,h,by simp⟩
 | c :: cs1,cs2,ds,es,b,h=>by
  match ds,es,h with
  | d :: ds,e :: es,h =>
   simp only [List.cons_append,eqs] at h
   split at h
   ·rename_i x y h1 h2
    obtain ⟨d1,d2,e1,e2,b1,b2,rfl,rfl,k1,k2,rfl⟩:=eqs_app h2
    cases h
    exact ⟨d :: d1,d2,e :: e1,e2,x && b1,b2,rfl,rfl,by simp [eqs,h1,k1],k2,by simp [Bool.and_assoc]⟩
   ·cases h
  | [],_,h=>simp [eqs] at h
  | _ :: _,[],h=>simp [eqs] at h
def valT (P:Program) (t:TypeId) (vs:List Value) (v:Value):Prop:=aggT P t=some false ∧ vs=[v] ∨ aggT P t=some true ∧ v=.agg vs.toArray
def TkOK (P:Program) (g:Tk) (n:Nat):Prop:=∀ t cs r,g t cs=some r → ∃ cs',cs=cs' ++ r ∧ ∀ (d:Nat) (im:Nat → Nat → Option Value) (gl:Nat → Option (Nat × Bool)) (w1 w:World) (ds es:List D) (vs us:List Value) (A C:List Nat) (b:Bool) (v u:Value),
 eqs cs' ds es=some b → RVs im gl w1 ds vs A → RVs im gl w1 es us C → valT P t vs v → valT P t us u → (Op.equalIn (d + n) t v u).run P w=.ok b w
theorem run_part_t {P : Program} {w : World} {t : TypeId} {xs : Array Value} {vs rest : List Value} {j : Nat} (hs : sameSz P t vs.length = true) (hx : ∀ i : Nat, xs[j + i]? = (vs ++ rest)[i]?) :
    ∃ v,valT P t vs v ∧ (part t xs j).run P w=.ok v w:=by
 unfold sameSz at hs
 simp only [Bool.or_eq_true,Bool.and_eq_true,beq_iff_eq] at hs
 rcases hs with ⟨h1,h2⟩ | ⟨h1,h2⟩
 ·match vs,h2 with
  | [v],_ =>
   exact ⟨v,.inl ⟨h1,rfl⟩,run_part h1 (by simpa using hx 0)⟩
 ·refine ⟨_,.inr ⟨h1,rfl⟩,?_⟩
  rw [run_part_agg h1 h2]
  congr 2
  apply Array.ext_getElem?
  intro i
  rw [Array.getElem?_extract]
  by_cases hi:i < vs.length
  ·have:=hx i
   rw [List.getElem?_append_left hi] at this
   have hlt:j + i < xs.size:=by
    rcases Nat.lt_or_ge (j + i) xs.size with h | h
    ·exact h
    ·rw [Array.getElem?_eq_none h,List.getElem?_eq_getElem hi] at this; cases this
   rw [if_pos (by omega)]
   simpa using this
  ·have hn:vs.length ≤ i:=by omega
   rw [if_neg (by omega)]
   simp [hn]
theorem takeF_ok {P : Program} {g : Tk} {n : Nat} (hg : TkOK P g n) : ∀ {fs : List Field} {j : Nat} {t : TypeId} {cs r : List Ec}, takeF P g fs j t cs = some r → ∃ cs', cs = cs' ++ r ∧
    ∀ (d:Nat) (im:Nat → Nat → Option Value) (gl:Nat → Option (Nat × Bool)) (w1 w:World) (ds es:List D) (vs us:List Value) (A C:List Nat) (b:Bool) (xs ys:Array Value),
     eqs cs' ds es=some b → RVs im gl w1 ds vs A → RVs im gl w1 es us C → (∀ i:Nat,xs[j + i]? = vs[i]?) → (∀ i:Nat,ys[j + i]? = us[i]?) → (Op.eqFields (d + n) xs ys fs).run P w=.ok b w
 | [],j,t,cs,r,h=>by
  simp only [takeF] at h
  cases h
  refine ⟨[],rfl,?_⟩
  intro d im gl w1 w ds es vs us A C b xs ys he hx hy h1 h2
  cases ds <;> cases es <;> simp [eqs] at he
  subst he
  simp [Op.eqFields]
 | f :: fs,j,t,cs,r,h=>by
  simp only [takeF] at h
  split at h
  ·rename_i hc
   simp only [Bool.and_eq_true,bne_iff_ne,beq_iff_eq] at hc
   obtain ⟨hn,ho⟩:=hc
   split at h
   ·rename_i r1 hr1
    split at h
    ·rename_i hs
     simp only [Bool.and_eq_true,decide_eq_true_eq] at hs
     obtain ⟨c1,rfl,k1⟩:=hg _ _ _ hr1
     have e1:(c1 ++ r1).length - r1.length=c1.length:=by simp
     rw [e1] at h hs
     obtain ⟨c2,rfl,k2⟩:=takeF_ok hg h
     refine ⟨c1 ++ c2,by simp,?_⟩
     intro d im gl w1 w ds es vs us A C b xs ys he hx hy h1 h2
     obtain ⟨d1,d2,e1,e2,b1,b2,rfl,rfl,q1,q2,rfl⟩:=eqs_app he
     obtain ⟨v1,v2,A1,A2,rfl,rfl,l1,m1,m2⟩:=RVs.append_inv _ hx
     obtain ⟨u1,u2,C1,C2,rfl,rfl,l2,o1,o2⟩:=RVs.append_inv _ hy
     have z1:=eqs_len q1
     have hv1:v1.length=c1.length:=by omega
     have hu1:u1.length=c1.length:=by omega
     obtain ⟨v,hv,p1⟩:=run_part_t (P:=P) (w:=w) (t:=f.type) (xs:=xs) (vs:=v1) (rest:=v2) (j:=f.offset) (by rw [hv1]; exact hs.1) (by rw [ho]; exact h1)
     obtain ⟨u,hu,p2⟩:=run_part_t (P:=P) (w:=w) (t:=f.type) (xs:=ys) (vs:=u1) (rest:=u2) (j:=f.offset) (by rw [hu1]; exact hs.1) (by rw [ho]; exact h2)
     have p3:=k1 d im gl w1 w d1 e1 v1 u1 A1 C1 b1 v u q1 m1 o1 hv hu
     have ih:=k2 d im gl w1 w d2 e2 v2 u2 A2 C2 b2 xs ys q2 m2 o2
      (fun i=>by have:=h1 (c1.length + i); rw [List.getElem?_append_right (by omega),show c1.length + i - v1.length=i by omega] at this; rw [← this]; congr 1; omega)
      (fun i=>by have:=h2 (c1.length + i); rw [List.getElem?_append_right (by omega),show c1.length + i - u1.length=i by omega] at this; rw [← this]; congr 1; omega)
     simp only [Op.eqFields,if_pos hn,Sem.run_bind,p1,p2,p3,Result.andThen_ok]
     cases b1
     ·simp
     ·simp [ih]
    ·cases h
   ·cases h
  ·cases h
theorem takeA_ok {P : Program} {g : Tk} {n : Nat} (hg : TkOK P g n) {e : TypeId} {m : Nat} : ∀ {k : Nat} {cs r : List Ec}, takeA P g e m k cs = some r → ∃ cs', cs = cs' ++ r ∧
    ∀ (d:Nat) (im:Nat → Nat → Option Value) (gl:Nat → Option (Nat × Bool)) (w1 w:World) (ds es:List D) (vs us:List Value) (A C:List Nat) (b:Bool) (xs ys:Array Value) (s:Nat),
     eqs cs' ds es=some b → RVs im gl w1 ds vs A → RVs im gl w1 es us C → (∀ i:Nat,xs[s * m + i]? = vs[i]?) → (∀ i:Nat,ys[s * m + i]? = us[i]?) → (Op.eqItems (d + n) e m xs ys (List.range' s k)).run P w=.ok b w
 | 0,cs,r,h=>by
  simp only [takeA] at h
  cases h
  refine ⟨[],rfl,?_⟩
  intro d im gl w1 w ds es vs us A C b xs ys s he hx hy h1 h2
  cases ds <;> cases es <;> simp [eqs] at he
  subst he
  simp [Op.eqItems]
 | k + 1,cs,r,h=>by
  simp only [takeA] at h
  split at h
  ·rename_i r1 hr1
   split at h
   ·rename_i hs
    simp only [Bool.and_eq_true,decide_eq_true_eq] at hs
    obtain ⟨c1,rfl,k1⟩:=hg _ _ _ hr1
    obtain ⟨c2,rfl,k2⟩:=takeA_ok hg h
    refine ⟨c1 ++ c2,by simp,?_⟩
    intro d im gl w1 w ds es vs us A C b xs ys s he hx hy h1 h2
    obtain ⟨d1,d2,e1,e2,b1,b2,rfl,rfl,q1,q2,rfl⟩:=eqs_app he
    obtain ⟨v1,v2,A1,A2,rfl,rfl,l1,m1,m2⟩:=RVs.append_inv _ hx
    obtain ⟨u1,u2,C1,C2,rfl,rfl,l2,o1,o2⟩:=RVs.append_inv _ hy
    have z1:=eqs_len q1
    have z2:c1.length=m:=by have:=hs.2; simp at this; omega
    have hv1:v1.length=m:=by omega
    have hu1:u1.length=m:=by omega
    obtain ⟨v,hv,p1⟩:=run_part_t (P:=P) (w:=w) (t:=e) (xs:=xs) (vs:=v1) (rest:=v2) (j:=s * m) (by rw [hv1]; exact hs.1) h1
    obtain ⟨u,hu,p2⟩:=run_part_t (P:=P) (w:=w) (t:=e) (xs:=ys) (vs:=u1) (rest:=u2) (j:=s * m) (by rw [hu1]; exact hs.1) h2
    have p3:=k1 d im gl w1 w d1 e1 v1 u1 A1 C1 b1 v u q1 m1 o1 hv hu
    have ih:=k2 d im gl w1 w d2 e2 v2 u2 A2 C2 b2 xs ys (s + 1) q2 m2 o2
     (fun i=>by have:=h1 (m + i); rw [List.getElem?_append_right (by omega),show m + i - v1.length=i by omega] at this; rw [← this,Nat.add_mul]; congr 1; omega)
     (fun i=>by have:=h2 (m + i); rw [List.getElem?_append_right (by omega),show m + i - u1.length=i by omega] at this; rw [← this,Nat.add_mul]; congr 1; omega)
    simp only [List.range'_succ,Op.eqItems,Sem.run_bind,p1,p2,p3,Result.andThen_ok]
    cases b1
    ·simp
    ·simp [ih]
   ·cases h
  ·cases h
theorem takeT_ok (P:Program):∀ n,TkOK P (takeT P n) n
 | 0=>fun t cs r h=>by simp [takeT] at h
 | n + 1=>by
  intro t cs r h
  simp only [takeT] at h
  split at h
  ·rename_i fs hfs
   split at h
   ·cases h
   ·rename_i hst
    obtain ⟨cs',rfl,k⟩:=takeF_ok (takeT_ok P n) h
    refine ⟨cs',rfl,?_⟩
    intro d im gl w1 w ds es vs us A C b v u he hx hy hv hu
    have ha:aggT P t=some true:=by simp [aggT,hfs]
    rcases hv with ⟨hv,_⟩ | ⟨_,rfl⟩
    ·rw [ha] at hv; cases hv
    rcases hu with ⟨hu,_⟩ | ⟨_,rfl⟩
    ·rw [ha] at hu; cases hu
    have hfo:P.fieldsOf t=fs:=by simp [Program.fieldsOf,hfs]
    rw [show d + (n + 1)=(d + n) + 1 from rfl,run_equalIn_struct w (d + n) t _ _ (by rw [hfo]; exact hfs) (by simpa using hst),hfo]
    exact k d im gl w1 w ds es vs us A C b _ _ he hx hy (fun i=>by simp) (fun i=>by simp)
  ·rename_i m e hme
   split at h
   ·rename_i k hk
    obtain ⟨cs',rfl,q⟩:=takeA_ok (takeT_ok P n) h
    refine ⟨cs',rfl,?_⟩
    intro d im gl w1 w ds es vs us A C b v u he hx hy hv hu
    have ha:aggT P t=some true:=by simp [aggT,hme]
    rcases hv with ⟨hv,_⟩ | ⟨_,rfl⟩
    ·rw [ha] at hv; cases hv
    rcases hu with ⟨hu,_⟩ | ⟨_,rfl⟩
    ·rw [ha] at hu; cases hu
    unfold szT at hk
    cases hi:P.info? e with
    | none=>simp [hi] at hk
    | some i =>
     simp [hi] at hk
     have hce:P.cellsOf e=k:=by simp [Program.cellsOf,hi,hk]
     rw [show d + (n + 1)=(d + n) + 1 from rfl,run_equalIn_array w (d + n) _ _ hme hi,hce,List.range_eq_range']
     exact q d im gl w1 w ds es vs us A C b _ _ 0 he hx hy (fun i=>by simp) (fun i=>by simp)
   ·cases h
  ·split at h
   ·rename_i c r0
    split at h
    ·rename_i hc
     cases h
     simp only [Bool.and_eq_true,beq_iff_eq] at hc
     refine ⟨[c],rfl,?_⟩
     intro d im gl w1 w ds es vs us A C b v u he hx hy hv hu
     rcases hv with ⟨_,rfl⟩ | ⟨hv,_⟩
     ·rcases hu with ⟨_,rfl⟩ | ⟨hu,_⟩
      ·match ds,es,he with
       | [x],[y],he =>
        simp only [eqs] at he
        split at he
        ·rename_i b1 b2 e1 e2
         cases he
         cases e2
         rw [Bool.and_true]
         exact eq1_run (P:=P) (w:=w) (d:=d + n) hc.2 e1 hx hy
        ·cases he
       | [],_,he=>simp [eqs] at he
       | [_],[],he=>simp [eqs] at he
       | [_],_ :: _ :: _,he=>simp [eqs] at he
       | _ :: _ :: _,[],he=>simp [eqs] at he
       | _ :: _ :: _,[_],he=>simp [eqs] at he
       | _ :: _ :: _,_ :: _ :: _,he=>simp [eqs] at he
      ·rw [hc.1] at hu; cases hu
     ·rw [hc.1] at hv; cases hv
    ·cases h
   ·cases h
theorem run_equal {P : Program} {w : World} {op : BinOp} {t : TypeId} {v u : Value} {r : Bool} (hop : op = .eql ∨ op = .neq) (h : (Op.equal t v u).run P w = .ok r w)
    (hi:∀ k n,v ≠ .int k n) (hf:∀ k n,v ≠ .float k n) (hcx:∀ k n m,v ≠ .complex k n m) (hs:∀ s,v ≠ .string s) :
    (binOp op t v u).run P w=.ok (.bool (if op=.neq then !r else r)) w:=by
 rcases hop with rfl | rfl
 all_goals
  cases v <;> first
   | (exact absurd rfl (hi _ _))
   | (exact absurd rfl (hf _ _))
   | (exact absurd rfl (hcx _ _ _))
   | (exact absurd rfl (hs _))
   | (simp only [binOp,Sem.run_bind,h,Result.andThen_ok]; rfl)
theorem equal_of {P:Program} {w:World} {t:TypeId} {v u:Value} {r:Bool} (h:∀ d,(Op.equalIn (d + 1) t v u).run P w=.ok r w):(Op.equal t v u).run P w=.ok r w:=h 9999
def Ec.oth:Ec → Bool
 | .it | .fl | .st=>false
 | _=>true
theorem o_eq {P B g F s a w Q o neg c t t' x y x' y' dst r s' ac OO meth} (h : Sm B g F s a w [] [] []) (hd : ∀ k, o.dst = some k → k < B.nt) (hop : o.op = .binOp (if neg then .neq else .eql) t x' y' t')
    (hx:chkX x x'=true) (hy:chkX y y'=true) (hc:chkEc P t c=true) (hg:chkG P t x' y'=true) (ho:c.oth=true) (he:evO OO meth (.eq neg c x y) s dst=some (r,s',ac)):Done P B o a w Q s' r:=by
 simp only [evO] at he
 split at he
 ·rename_i d s1 h1
  split at he
  ·rename_i e s2 h2
   simp only [Option.map_eq_some_iff] at he
   obtain ⟨q,h3,h4⟩:=he
   cases h4
   obtain ⟨F2,Fy,k⟩:=rx2_sim h hx hy h1 h2
   obtain ⟨A,C,_,hA,hC⟩:=k.two
   have hopp:(if neg then BinOp.neq else BinOp.eql)=.eql ∨ (if neg then BinOp.neq else BinOp.eql)=.neq:=by cases neg <;> simp
   have hgd:=guard_run (P:=P) (w:=w) hopp hg hc h3 hA hC
   have heq:=equal_of (P:=P) (w:=w) (fun d=>eq1_run (d:=d) hc h3 hA hC)
   have hb:=run_equal (P:=P) (w:=w) hopp heq
    (by rintro k n e; rw [e] at hA; cases hA <;> cases c <;> simp [eq1,Ec.oth] at h3 ho)
    (by rintro k n e; rw [e] at hA; cases hA <;> cases c <;> simp [eq1,Ec.oth] at h3 ho)
    (by rintro k n m e; rw [e] at hA; cases hA <;> cases c <;> simp [eq1,Ec.oth] at h3 ho)
    (by rintro n e; rw [e] at hA; cases hA <;> cases c <;> simp [eq1,Ec.oth] at h3 ho)
   refine done_v (w':=w) hd (v:=.bool (if neg then !q else q)) ?_ (k.drop (.b _ .nil))
   cases neg <;> simp at hgd hb <;> simp [execOp,hop,hgd,hb]
  ·cases he
 ·cases he
def chkSt (P:Program) (t:TypeId) (cs:List Ec):Bool:=takeT P 8 t cs == some [] && aggT P t == some true && !P.eqGuardType P.depth t
theorem o_eqa {P B g F s a w Q o neg cs t t' x y x' y' dst r s' ac OO meth} (h : Sm B g F s a w [] [] []) (hd : ∀ k, o.dst = some k → k < B.nt) (hop : o.op = .binOp (if neg then .neq else .eql) t x' y' t')
    (hx:chkX x x'=true) (hy:chkX y y'=true) (hc:chkSt P t cs=true) (he:evO OO meth (.eqa neg cs x y) s dst=some (r,s',ac)):Done P B o a w Q s' r:=by
 simp only [evO] at he
 split at he
 ·rename_i ds s1 h1
  split at he
  ·rename_i es s2 h2
   simp only [Option.map_eq_some_iff] at he
   obtain ⟨q,h3,h4⟩:=he
   cases h4
   obtain ⟨F2,Fy,k⟩:=rx2_sim h hx hy h1 h2
   obtain ⟨A,C,_,hA,hC⟩:=k.two
   obtain ⟨vs,ev,_,k1⟩:=agg_inv hA
   obtain ⟨us,eu,_,k2⟩:=agg_inv hC
   unfold chkSt at hc
   simp only [Bool.and_eq_true,Bool.not_eq_true',beq_iff_eq] at hc
   obtain ⟨⟨hc1,hc2⟩,hc3⟩:=hc
   obtain ⟨cs',e0,hk⟩:=takeT_ok P 8 t cs [] hc1
   rw [List.append_nil] at e0
   subst e0
   have heq:(Op.equal t (a.eval x') (a.eval y')).run P w=.ok q w:=by
    rw [ev,eu]
    exact hk 9992 _ _ _ w _ _ _ _ _ _ q _ _ h3 k1 k2 (.inr ⟨hc2,by simp⟩) (.inr ⟨hc2,by simp⟩)
   have hopp:(if neg then BinOp.neq else BinOp.eql)=.eql ∨ (if neg then BinOp.neq else BinOp.eql)=.neq:=by cases neg <;> simp
   have hb:=run_equal (P:=P) (w:=w) hopp heq (by simp [ev]) (by simp [ev]) (by simp [ev]) (by simp [ev])
   have hgd:(eqGuard (if neg then .neq else .eql) t x' y' (a.eval x') (a.eval y')).run P w=.ok () w:=by
    rw [ev,eu]
    cases neg <;> simp [eqGuard,hc3]
   refine done_v (w':=w) hd (v:=.bool (if neg then !q else q)) ?_ (k.drop (.b _ .nil))
   cases neg <;> simp at hgd hb <;> simp [execOp,hop,hgd,hb]
  ·cases he
 ·cases he
end Go.AM

namespace Go.AM
def chkCv (P:Program) (t u:TypeId) (c:Cv):Bool:=match c,P.underlying t,P.underlying u with
 | .int k,some _,some (.int j)=>k == j
 | .same,some _,some .string=>true
 | _,_,_=>false
theorem o_cv {P B g F s a w Q o c t u x x' dst r s' ac OO meth} (h : Sm B g F s a w [] [] []) (hd : ∀ k, o.dst = some k → k < B.nt) (hop : o.op = .convert t u x')
    (hx:chkX x x'=true) (hc:chkCv P t u c=true) (he:evO OO meth (.cv c x) s dst=some (r,s',ac)):Done P B o a w Q s' r:=by
 simp only [evO] at he
 split at he
 ·rename_i d s1 h1
  simp only [Option.map_eq_some_iff] at he
  obtain ⟨q,h3,h4⟩:=he
  cases h4
  obtain ⟨F1,Fy,k⟩:=rx1_sim h hx h1
  unfold chkCv at hc
  split at hc
  ·rename_i k1 tt j htt hj
   simp at hc; subst hc
   cases d <;> simp [cvv] at h3
   subst h3
   have e1:=int_inv k.ex
   exact done_v (w':=w) hd (v:=.int k1 _) (by simp [execOp,hop,e1,convert,underlying,htt,hj,Conv.intToInt]) (k.drop (.i _ _ .nil))
  ·rename_i tt htt hj
   cases d <;> simp [cvv] at h3
   subst h3
   have e1:=str_inv k.ex
   exact done_v (w':=w) hd (v:=.string _) (by simp [execOp,hop,e1,convert,underlying,htt,hj]) (k.drop (.s _ .nil))
  ·cases hc
 ·cases he
theorem o_mi {P B g F s a w Q o t x x' dst r s' ac OO meth} (h : Sm B g F s a w [] [] []) (hd : ∀ k, o.dst = some k → k < B.nt) (hop : o.op = .makeInterface t x')
    (hx:chkX x x'=true) (hc:(match P.underlying t with | some (.interface _)=>false | some _=>true | none=>false)=true) (he:evO OO meth (.mi t x) s dst=some (r,s',ac)):Done P B o a w Q s' r:=by
 simp only [evO] at he
 split at he
 ·rename_i d s1 h1
  simp only [Option.map_eq_some_iff] at he
  obtain ⟨q,h3,h4⟩:=he
  cases h4
  obtain ⟨F1,Fy,k⟩:=rx1_sim h hx h1
  have hq:g.rv w [q] [a.eval x'] [] := RVs.cp (ds:=[d]) k.ex [q] (by simp [D.cps,h3])
  refine done_v (w':=w) hd (v:=.iface t (a.eval x')) ?_ (k.drop (.ic _ _ _ hq .nil))
  split at hc
  ·cases hc
  ·rename_i dd hne hdd
   simp [execOp,hop,Instr.makeInterface,underlying,hdd]
  ·cases hc
 ·cases he
theorem o_mkm {P B g F s a w Q o t dst r s' ac OO meth} (h : Sm B g F s a w [] [] []) (hd : ∀ k, o.dst = some k → k < B.nt) (hop : o.op = .makeMap t none)
    (he:evO OO meth (.mv (.c .mp)) s dst=some (r,s',ac)):Done P B o a w Q s' r:=by
 simp only [evO,rx,Option.map_some,Option.some.injEq,Prod.mk.injEq] at he
 obtain ⟨rfl,rfl,_⟩:=he
 have k:Sm B g F s a { w with heap:=w.heap.push (.map #[] 0) } [] [] [] := h.world (fun b hb=>by
  show (w.heap.push _)[b]? = w.heap[b]?
  rw [Array.getElem?_push_lt hb,Array.getElem?_eq_getElem hb]) (by show w.heap.size ≤ (w.heap.push _).size; simp) rfl rfl rfl
 exact done_v (w':={ w with heap:=w.heap.push (.map #[] 0) }) hd (v:=.map (some w.heap.size)) (by simp [execOp,hop,Instr.makeMap,newObj,Sem.run]) (k.drop (.mp _ .nil))
theorem o_mm {P B g F s a w Q o nm x x' dst r s' ac OO meth} (h : Sm B g F s a w [] [] []) (hd : ∀ k, o.dst = some k → k < B.nt) (hop : o.op = .makeFunc (.method nm) #[x'] #[])
    (hx:chkX x x'=true) (he:evO OO meth (.mm nm x) s dst=some (r,s',ac)):Done P B o a w Q s' r:=by
 simp only [evO] at he
 split at he
 ·rename_i d s1 h1
  simp only [Option.map_eq_some_iff] at he
  obtain ⟨q,h3,h4⟩:=he
  cases h4
  obtain ⟨F1,Fy,k⟩:=rx1_sim h hx h1
  have hq:g.rv w [q] [a.eval x'] [] := RVs.cp (ds:=[d]) k.ex [q] (by simp [D.cps,h3])
  exact done_v (w':=w) hd (v:=.func (.method nm) #[a.eval x'] #[]) (by simp [execOp,hop,Instr.makeFunc]) (k.drop (.bm _ _ _ hq .nil))
 ·cases he
theorem o_mf {P B g F s a w Q o f first xs xs' dst r s' ac OO meth} (h : Sm B g F s a w [] [] []) (hd : ∀ k, o.dst = some k → k < B.nt) (hop : o.op = .makeFunc (.func f) first xs')
    (hx:chkXs xs xs'.toList=true) (hf:first.size=0) (hf0:f < Q0) (he:evO OO meth (.mf f xs) s dst=some (r,s',ac)):Done P B o a w Q s' r:=by
 simp only [evO] at he
 split at he
 ·rename_i ds s1 h1
  simp only [Option.map_eq_some_iff] at he
  obtain ⟨q,h3,h4⟩:=he
  cases h4
  obtain ⟨F1,Fy,k,_⟩:=rxs_sim h hx h1
  have hq:g.rv w q (xs'.toList.map a.eval) [] := RVs.cp (ds:=ds) (by simpa using k.ex) q h3
  refine done_v (w':=w) hd (v:=.func (.func f) #[] (xs'.toList.map a.eval).toArray) ?_ (k.drop (.fn _ _ _ hf0 hq .nil))
  have hf0:first=#[] := Array.size_eq_zero_iff.1 hf
  simp [execOp,hop,Instr.makeFunc,hf0]
  cases xs'; simp
 ·cases he
theorem bnd_none {d t l} (h:bnd none d t=some l):l=d:=by simp [bnd] at h; exact h.symm
theorem bnd_some {x d t l} (h:bnd (some x) d t=some l):∃ k,x=.i k l ∧ l ≤ t:=by
 cases x <;> simp [bnd] at h
 rename_i k n
 obtain ⟨⟨h1,h2⟩,rfl⟩:=h
 refine ⟨k,?_,by omega⟩
 rw [Int.toNat_of_nonneg h1]
def chkO? : Option X → Option Operand → Bool
 | none,none=>true
 | some x,some o=>chkX x o
 | _,_=>false
theorem rxo_sim {B g F s a w ds vs Fx x o d s'} (h : Sm B g F s a w ds vs Fx) (hc : chkO? x o = true) (hx : evO.rxo x s = some (d, s')) :
    (x=none ∧ o=none ∧ d=none ∧ s'=s) ∨ ∃ y p e F' Fy,o=some p ∧ x=some y ∧ d=some e ∧ Sm B g F' s' a w (ds ++ [e]) (vs ++ [a.eval p]) (Fx ++ Fy):=by
 cases x with
 | none =>
  simp [evO.rxo] at hx
  cases o with
  | none=>exact .inl ⟨rfl,rfl,hx.1.symm,hx.2.symm⟩
  | some p=>simp [chkO?] at hc
 | some y =>
  simp only [evO.rxo,Option.map_eq_some_iff] at hx
  obtain ⟨⟨e,s1⟩,h1,h2⟩:=hx
  cases h2
  cases o with
  | none=>simp [chkO?] at hc
  | some p =>
   obtain ⟨F',Fy,k⟩:=rxv_sim h (by simpa [chkO?] using hc) h1
   exact .inr ⟨y,p,e,F',Fy,rfl,rfl,rfl,k⟩
theorem run_sliceBound {P:Program} {w:World} {v:Value} {k:IntKind} {l t:Nat} {c:BoundsCode} (h:v=.int k l) (hl:l ≤ t):(Instr.sliceBound v t c).run P w=.ok l w:=by
 subst h
 simp [Instr.sliceBound,asIntOf]
 omega
theorem bounds_sim {P : Program} {w : World} {a : Act} {isS : Bool} {len cap : Nat} {lo hi : Option Operand} {l h : Nat}
    (hh:(hi=none ∧ h=len) ∨ ∃ p k,hi=some p ∧ a.eval p=.int k h ∧ h ≤ cap) (hl:(lo=none ∧ l=0) ∨ ∃ p k,lo=some p ∧ a.eval p=.int k l ∧ l ≤ h) :
    (Instr.sliceBounds isS len cap (lo.map a.eval) (hi.map a.eval) none).run P w=.ok (l,h,cap) w:=by
 rcases hh with ⟨rfl,rfl⟩ | ⟨p,k,rfl,e,hle⟩ <;> rcases hl with ⟨rfl,rfl⟩ | ⟨q,k',rfl,e',hle'⟩
 ·simp [Instr.sliceBounds]
 ·simp [Instr.sliceBounds,run_sliceBound e' hle']
 ·simp [Instr.sliceBounds,run_sliceBound e hle]
 ·simp [Instr.sliceBounds,run_sliceBound e hle,run_sliceBound e' hle']
theorem rx3_sim {B g F s a w x lo hi x' lo' hi' d s1 l s2 h s3} (hs : Sm B g F s a w [] [] []) (hx : chkX x x' = true) (hl : chkO? lo lo' = true) (hh : chkO? hi hi' = true)
    (h1:rxv x s=some (d,s1)) (h2:evO.rxo lo s1=some (l,s2)) (h3:evO.rxo hi s2=some (h,s3)) :
    ∃ F' Fx,Sm B g F' s3 a w [d] [a.eval x'] Fx ∧ (∀ n dl tp,bnd l dl tp=some n → (lo'=none ∧ n=dl) ∨ ∃ p k,lo'=some p ∧ a.eval p=.int k n ∧ n ≤ tp) ∧
     (∀ n dl tp,bnd h dl tp=some n → (hi'=none ∧ n=dl) ∨ ∃ p k,hi'=some p ∧ a.eval p=.int k n ∧ n ≤ tp) ∧ (h=none ↔ hi'=none):=by
 obtain ⟨F1,Fy,k1⟩:=rx1_sim hs hx h1
 have drop1:∀ {F s e v Fz},Sm B g F s a w ([d] ++ [e]) ([a.eval x'] ++ [v]) Fz → ∃ A,Sm B g F s a w [d] [a.eval x'] A ∧ ∃ C,g.rv w [e] [v] C:=by
  intro F s e v Fz k
  obtain ⟨A,C,e1,hA,hC⟩:=Sm.two (by simpa using k)
  have hn:=k.dj.ndx
  rw [e1] at hn
  exact ⟨A,k.weaken _ _ A hA (by rw [e1]; intro b hb; simp [hb]) ((List.nodup_append.1 hn).1),C,hC⟩
 rcases rxo_sim k1 hl h2 with ⟨rfl,rfl,rfl,rfl⟩ | ⟨y,p,e,F2,Fz,rfl,rfl,rfl,k2⟩
 ·rcases rxo_sim k1 hh h3 with ⟨rfl,rfl,rfl,rfl⟩ | ⟨y,p,e,F3,Fz,rfl,rfl,rfl,k3⟩
  ·exact ⟨F1,Fy,k1,fun n dl tp hb=>.inl ⟨rfl,bnd_none hb⟩,fun n dl tp hb=>.inl ⟨rfl,bnd_none hb⟩,by simp⟩
  ·obtain ⟨A,k4,C,hC⟩:=drop1 k3
   refine ⟨F3,A,k4,fun n dl tp hb=>.inl ⟨rfl,bnd_none hb⟩,fun n dl tp hb=>.inr ?_,by simp⟩
   obtain ⟨k,rfl,hle⟩:=bnd_some hb
   exact ⟨p,k,rfl,int_inv hC,hle⟩
 ·obtain ⟨A,k4,C,hC⟩:=drop1 k2
  have hlo:∀ n dl tp,bnd (some e) dl tp=some n → (some p=none ∧ n=dl) ∨ ∃ q k,some p=some q ∧ a.eval q=.int k n ∧ n ≤ tp:=by
   intro n dl tp hb
   obtain ⟨k,rfl,hle⟩:=bnd_some hb
   exact .inr ⟨p,k,rfl,int_inv hC,hle⟩
  rcases rxo_sim k4 hh h3 with ⟨rfl,rfl,rfl,rfl⟩ | ⟨y',p',e',F3,Fz',rfl,rfl,rfl,k3⟩
  ·exact ⟨F2,A,k4,hlo,fun n dl tp hb=>.inl ⟨rfl,bnd_none hb⟩,by simp⟩
  ·obtain ⟨A',k5,C',hC'⟩:=drop1 k3
   refine ⟨F3,A',k5,hlo,fun n dl tp hb=>.inr ?_,by simp⟩
   obtain ⟨k,rfl,hle⟩:=bnd_some hb
   exact ⟨p',k,rfl,int_inv hC',hle⟩
theorem o_ss {P B g F s a w Q o t x x' lo hi lo' hi' dst r s' ac OO meth} (h : Sm B g F s a w [] [] []) (hd : ∀ k, o.dst = some k → k < B.nt) (hop : o.op = .slice t x' lo' hi' none)
    (hx:chkX x x'=true) (hl:chkO? lo lo'=true) (hh:chkO? hi hi'=true) (hc:P.underlying t=some .string) (he:evO OO meth (.ss x lo hi) s dst=some (r,s',ac)):Done P B o a w Q s' r:=by
 simp only [evO] at he
 split at he
 ·rename_i d s1 h1
  split at he
  ·rename_i l s2 h2
   split at he
   ·rename_i hh' s3 h3
    simp only [Option.map_eq_some_iff] at he
    obtain ⟨q,h4,h5⟩:=he
    cases h5
    obtain ⟨F',Fx,k,klo,khi,_⟩:=rx3_sim h hx hl hh h1 h2 h3
    unfold ssv at h4
    split at h4
    ·rename_i v
     split at h4
     ·rename_i hb eh
      split at h4
      ·rename_i lb el
       cases h4
       have e1:=str_inv k.ex
       have hbd:=bounds_sim (P:=P) (w:=w) (isS:=false) (khi _ _ _ eh) (klo _ _ _ el)
       exact done_v (w':=w) hd (v:=.string (v.extract lb hb)) (by simp [execOp,hop,e1,Instr.sliceAt,Instr.slice,underlying,hc,hbd]) (k.drop (.s _ .nil))
      ·cases h4
     ·cases h4
    ·cases h4
   ·cases he
  ·cases he
 ·cases he
end Go.AM

namespace Go.AM
theorem sub_len {cs:List D} {off n:Nat} {ds:List D} (h:sub cs off n=some ds):ds.length=n ∧ off + n ≤ cs.length:=by
 unfold sub at h
 split at h
 ·cases h; simp; omega
 ·cases h
theorem RVs.part {im gl w cs us F} (h : RVs im gl w cs us F) {off n : Nat} {ds : List D} (hs : sub cs off n = some ds) :
    ∃ A,(∀ b ∈ A,b ∈ F) ∧ A.Sublist F ∧ RVs im gl w ds ((us.drop off).take n) A:=by
 unfold sub at hs
 split at hs
 ·rename_i hle
  cases hs
  have e:cs=cs.take off ++ ((cs.drop off).take n ++ (cs.drop off).drop n):=by rw [List.take_append_drop n (cs.drop off),List.take_append_drop]
  rw [e] at h
  obtain ⟨u1,t1,A1,C1,e1,e2,l1,h1,h2⟩:=RVs.append_inv _ h
  obtain ⟨u2,t2,A2,C2,e3,e4,l2,h3,h4⟩:=RVs.append_inv _ h2
  subst e1 e2 e3 e4
  have q1:u1.length=off:=by rw [l1]; simp; omega
  have q2:u2.length=n:=by rw [l2]; simp; omega
  have e5:((u1 ++ (u2 ++ t2)).drop off).take n=u2:=by rw [← q1,List.drop_left,← q2,List.take_left]
  refine ⟨A2,fun b hb=>by simp [hb],?_,by rw [e5]; exact h3⟩
  exact (List.sublist_append_left A2 C2).trans (List.sublist_append_right A1 _)
 ·cases hs
theorem ofc_rv {im gl w agg ds d us F} (h : RVs im gl w ds us F) (ho : ofc agg ds = some d) (h1 : ∀ v ∈ us, v.oneCell' = true) :
    (agg=true ∧ RVs im gl w [d] [.agg us.toArray] F) ∨ (agg=false ∧ ∃ v,us=[v] ∧ ds=[d] ∧ RVs im gl w [d] [v] F):=by
 unfold ofc at ho
 split at ho
 ·rename_i ha
  cases ho
  left
  have:=RVs.a ds us h1 h (.nil (im:=im) (gl:=gl) (w:=w))
  exact ⟨ha,by simpa using this⟩
 ·rename_i ha
  split at ho
  ·cases ho
   right
   obtain ⟨v,rfl⟩:=h.single
   exact ⟨by simpa using ha,v,rfl,rfl,h⟩
  ·cases ho
theorem extract_eq (us:List Value) (off n:Nat):us.toArray.extract off (off + n)=((us.drop off).take n).toArray:=by
 apply Array.ext'
 simp [List.extract_eq_take_drop]
theorem part_run {P : Program} {w : World} {t : TypeId} {im gl w1} {agg : Bool} {cs ds : List D} {us : List Value} {off n : Nat} {d : D} {F : List Nat} (ha : aggT P t = some agg) (hn : szT P t = some n) (h1n : agg = false → n = 1)
    (h:RVs im gl w1 cs us F) (h1:∀ v ∈ us,v.oneCell'=true) (hs:sub cs off n=some ds) (ho:ofc agg ds=some d) :
    ∃ v A,(part t us.toArray off).run P w=.ok v w ∧ RVs im gl w1 [d] [v] A ∧ (∀ b ∈ A,b ∈ F) ∧ A.Sublist F:=by
 obtain ⟨A,hA,hsub,hr⟩:=h.part hs
 rcases ofc_rv hr ho (fun v hv=>h1 v (List.mem_of_mem_drop (List.mem_of_mem_take hv))) with ⟨rfl,hr'⟩ | ⟨rfl,v,ev,_,hr'⟩
 ·exact ⟨_,A,by rw [run_part_agg ha hn,extract_eq],hr',hA,hsub⟩
 ·refine ⟨v,A,run_part ha ?_,hr',hA,hsub⟩
  have h2:((us.drop off).take n)[0]? = some v:=by rw [ev]; rfl
  rw [List.getElem?_take] at h2
  split at h2
  ·simpa using h2
  ·cases h2
def chkFd (P:Program) (t:TypeId) (j:Nat) (agg:Bool) (off n:Nat):Bool:=match P.underlying t with
 | some (.struct fs)=>match fs[j]? with
  | some f=>f.offset == off && aggT P f.type == some agg && szT P f.type == some n && (agg || n == 1)
  | none=>false
 | _=>false
theorem o_fd {P B g F s a w Q o t j agg off n x x' dst r s' ac OO meth} (h : Sm B g F s a w [] [] []) (hd : ∀ k, o.dst = some k → k < B.nt) (hop : o.op = .field t x' j)
    (hx:chkX x x'=true) (hc:chkFd P t j agg off n=true) (he:evO OO meth (.fd agg off n x) s dst=some (r,s',ac)):Done P B o a w Q s' r:=by
 simp only [evO] at he
 split at he
 ·rename_i cs s1 h1
  split at he
  ·rename_i ds hs
   simp only [Option.map_eq_some_iff] at he
   obtain ⟨d,h3,h4⟩:=he
   cases h4
   obtain ⟨F1,Fy,k⟩:=rx1_sim h hx h1
   obtain ⟨us,ev,h1c,hr⟩:=agg_inv k.ex
   unfold chkFd at hc
   split at hc
   ·rename_i fs hfs
    split at hc
    ·rename_i f hf
     simp only [Bool.and_eq_true,beq_iff_eq,Bool.or_eq_true] at hc
     obtain ⟨⟨⟨c1,c2⟩,c3⟩,c4⟩:=hc
     obtain ⟨v,A,hv,hrv,hA,hsub⟩:=part_run (P:=P) (w:=w) c2 c3 (fun e=>by subst e; simpa using c4) hr h1c hs h3
     refine done_v (w':=w) hd (v:=v) ?_ (k.weaken _ _ A hrv hA (hsub.nodup k.dj.ndx))
     simp [execOp,hop,ev,Instr.field,underlying,hfs,hf,asAgg,c1,hv]
    ·cases hc
   ·cases hc
  ·cases he
 ·cases he
theorem o_ixs {P B g F s a w Q o t x y x' y' dst r s' ac OO meth} (h : Sm B g F s a w [] [] []) (hd : ∀ k, o.dst = some k → k < B.nt) (hop : o.op = .index t x' y')
    (hx:chkX x x'=true) (hy:chkX y y'=true) (hc:P.underlying t=some .string) (he:evO OO meth (.ixs x y) s dst=some (r,s',ac)):Done P B o a w Q s' r:=by
 simp only [evO] at he
 split at he
 ·rename_i v s1 h1
  split at he
  ·rename_i k1 n s2 h2
   split at he
   ·rename_i h0
    split at he
    ·rename_i c hcc
     cases he
     obtain ⟨F2,Fy,k⟩:=rx2_sim h hx hy h1 h2
     obtain ⟨A,C,_,hA,hC⟩:=k.two
     have e1:=str_inv hA
     have e2:=int_inv hC
     have hb:v[n.toNat]? = some c:=by
      rw [List.getElem?_eq_some_iff] at hcc
      obtain ⟨hl,rfl⟩:=hcc
      have hl':n.toNat < v.size:=by simpa using hl
      rw [getElem?_pos v n.toNat hl']
      rfl
     exact done_v (w':=w) hd (v:=.int .u8 c.toNat) (by simp [execOp,hop,e1,e2,Instr.index,asIntOf,underlying,hc,h0,hb]) (k.drop (.i _ _ .nil))
    ·cases he
   ·cases he
  ·cases he
 ·cases he
def chkIa (P:Program) (t:TypeId) (agg:Bool) (sz len:Nat):Bool:=match P.underlying t with
 | some (.array m e)=>m == len && aggT P e == some agg && szT P e == some sz && (agg || sz == 1)
 | _=>false
theorem o_ixa {P B g F s a w Q o t agg sz len x y x' y' dst r s' ac OO meth} (h : Sm B g F s a w [] [] []) (hd : ∀ k, o.dst = some k → k < B.nt) (hop : o.op = .index t x' y')
    (hx:chkX x x'=true) (hy:chkX y y'=true) (hc:chkIa P t agg sz len=true) (he:evO OO meth (.ixa agg sz len x y) s dst=some (r,s',ac)):Done P B o a w Q s' r:=by
 simp only [evO] at he
 split at he
 ·rename_i cs s1 h1
  split at he
  ·rename_i k1 n s2 h2
   split at he
   ·rename_i h0
    split at he
    ·rename_i ds hs
     simp only [Option.map_eq_some_iff] at he
     obtain ⟨d,h3,h4⟩:=he
     cases h4
     obtain ⟨F2,Fy,k⟩:=rx2_sim h hx hy h1 h2
     obtain ⟨A,C,eF,hA,hC⟩:=k.two
     obtain ⟨us,ev,h1c,hr⟩:=agg_inv hA
     have e2:=int_inv hC
     unfold chkIa at hc
     split at hc
     ·rename_i m e hm
      simp only [Bool.and_eq_true,beq_iff_eq,Bool.or_eq_true] at hc
      obtain ⟨⟨⟨c1,c2⟩,c3⟩,c4⟩:=hc
      subst c1
      obtain ⟨v,A',hv,hrv,hA',hsub⟩:=part_run (P:=P) (w:=w) c2 c3 (fun e=>by subst e; simpa using c4) hr h1c hs h3
      have hnd:=k.dj.ndx
      rw [eF] at hnd
      refine done_v (w':=w) hd (v:=v) ?_ (k.weaken _ _ A' hrv (fun b hb=>by rw [eF]; simp [hA' b hb]) (hsub.nodup (List.nodup_append.1 hnd).1))
      simp [execOp,hop,ev,e2,Instr.index,asIntOf,underlying,hm,h0,run_sizeOf c3,hv]
     ·cases hc
    ·cases he
   ·cases he
  ·cases he
 ·cases he
theorem o_ex {P B g F s a w Q o tk n k dst r s' ac OO meth} (h : Sm B g F s a w [] [] []) (hd : ∀ k, o.dst = some k → k < B.nt) (hop : o.op = .extract (.tmp k) n)
    (he:evO OO meth (.ex tk n k) s dst=some (r,s',ac)):Done P B o a w Q s' r:=by
 simp only [evO] at he
 split at he
 ·rename_i ds hl
  split at he
  ·rename_i d hdn
   obtain ⟨v,hv,hr⟩:=h.sl k _ hl
   obtain ⟨us,ev,hru⟩:=tup_inv (show RVs g.im g.gl w [.t ds] [v] (F (.sl k)) from hr)
   have hn:n < ds.length:=by rw [List.getElem?_eq_some_iff] at hdn; exact hdn.1
   have hsp:ds=ds.take n ++ ([d] ++ ds.drop (n + 1)):=by
    rw [List.getElem?_eq_some_iff] at hdn
    obtain ⟨h1,h2⟩:=hdn
    rw [← h2]; simp
   rw [hsp] at hru
   obtain ⟨u1,t1,A1,C1,e1,e2,l1,k1,k2⟩:=RVs.append_inv _ hru
   obtain ⟨u2,t2,A2,C2,e3,e4,l2,k3,k4⟩:=RVs.append_inv _ k2
   obtain ⟨u,rfl⟩:=k3.single
   have hun:us[n]? = some u:=by
    have:u1.length=n:=by rw [l1]; simp; omega
    rw [e1,e3,List.getElem?_append_right (by omega),this]; simp
   have hrun:(execOp a.eval o).run P w=.ok (.value u) w:=by
    simp [execOp,hop,eval_tmp hv,ev,Instr.extract,hun]
   cases tk with
   | false =>
    simp only [Bool.false_eq_true,if_false,Option.map_eq_some_iff] at he
    obtain ⟨d',h3,h4⟩:=he
    cases h4
    exact done_v hd hrun (h.drop (RVs.cp (ds:=[d]) k3 [d'] (by simp [D.cps,h3])))
   | true =>
    simp only [if_true] at he
    cases he
    have hnd:=h.dj.nd (.sl k)
    have hF:F (.sl k)=A1 ++ (A2 ++ C2):=by rw [e2,e4]
    have hout:=h.dj.out (.sl k)
    have hset:ds.set n .w=ds.take n ++ ([.w] ++ ds.drop (n + 1)):=by
     rw [List.set_eq_take_append_cons_drop,if_pos hn]; simp
    have hrw:g.rv w [.t (ds.set n .w)] [v] (A1 ++ C2):=by
     rw [ev,e1,e3,hset]
     have:=RVs.t (im:=g.im) (gl:=g.gl) (w:=w) _ _ (k1.append ((RVs.w u .nil).append k4)) .nil
     simpa using this
    rw [hF,List.nodup_append,List.nodup_append] at hnd
    obtain ⟨n1,⟨n2,n3,n4⟩,n5⟩:=hnd
    have hsub:∀ b ∈ A1 ++ C2,b ∈ F (.sl k):=by intro b hb; rw [hF]; simp only [List.mem_append] at hb ⊢; rcases hb with hb | hb <;> simp [hb]
    have hA2:∀ b ∈ A2,b ∈ F (.sl k):=by intro b hb; rw [hF]; simp [hb]
    have hndl:((A1 ++ C2) ++ A2).Nodup:=by
     rw [List.nodup_append,List.nodup_append]
     refine ⟨⟨n1,n3,fun b hb c hc=>n5 b hb c (by simp [hc])⟩,n2,?_⟩
     intro b hb c hc e
     subst e
     rcases List.mem_append.1 hb with hb | hb
     ·exact n5 b hb b (by simp [hc]) rfl
     ·exact n4 b hc b hb rfl
    refine done_v (F:=ups F (.sl k) (A1 ++ C2)) (Fx:=A2) hd hrun { h with
     sl:=?_,ob:=?_,gb:=?_,ex:=k3,dslot:=?_,dob:=?_,dgb:=?_,dj:=?_,lt:=?_ }
    ·intro j r' hj
     simp only [look] at hj
     split at hj
     ·rename_i e; subst e; cases hj
      exact ⟨v,hv,by rw [ups_same]; exact hrw⟩
     ·rename_i hne
      obtain ⟨v',hv',hr'⟩:=h.sl j r' hj
      exact ⟨v',hv',by rw [ups_ne _ _ (by simp; omega)]; exact hr'.of_at (at_fr s _)⟩
    ·intro j cs hj; rw [ups_ne _ _ (by simp)]; exact h.ob j cs hj
    ·intro j cs hj; rw [ups_ne _ _ (by simp)]; exact h.gb j cs hj
    ·intro j hj
     simp only [look] at hj
     split at hj
     ·cases hj
     ·rename_i hne; rw [ups_ne _ _ (by simp; omega)]; exact h.dslot j hj
    ·intro j hj; rw [ups_ne _ _ (by simp)]; exact h.dob j hj
    ·intro j hj; rw [ups_ne _ _ (by simp)]; exact h.dgb j hj
    ·have h5:Dj (ups F (.sl k) []) ((A1 ++ C2) ++ A2):=hout.sub (by intro b hb; simp only [List.nil_append]; rcases List.mem_append.1 hb with hb | hb; exact hsub b hb; exact hA2 b hb) hndl
     have h6:=h5.into (.sl k)
     have h7:ups (ups F (.sl k) []) (.sl k) (A1 ++ C2)=ups F (.sl k) (A1 ++ C2):=by funext x; unfold ups; split <;> rfl
     rw [h7] at h6; exact h6
    ·intro b hb
     rcases hb with hb | ⟨x,hb⟩
     ·exact h.lt b (.inr ⟨_,hA2 b hb⟩)
     ·unfold ups at hb; split at hb
      ·exact h.lt b (.inr ⟨_,hsub b hb⟩)
      ·exact h.lt b (.inr ⟨x,hb⟩)
  ·cases he
 ·cases he
end Go.AM

namespace Go.AM
theorem add_addr (b off n:Nat):(⟨b,off,none⟩:Addr).add n=⟨b,off + n,none⟩:=by
 unfold Addr.add; split
 ·rename_i h; subst h; rfl
 ·rfl
theorem ptr_off {B g F s a w ds vs Fx r v} (h : Sm B g F s a w ds vs Fx) (hr : (∃ d A, r = .v d ∧ g.rv w [d] [v] A) ∨ (∃ q, r = .q q ∧ qOK g w s q v)) (n : Nat) {r' : R} (hf : fav n r = some r') :
    ∃ b o,v=.pointer (some ⟨b,o,none⟩) ∧ ((∃ d,r'=.v d ∧ g.rv w [d] [.pointer (some ⟨b,o + n,none⟩)] []) ∨ (∃ q,r'=.q q ∧ qOK g w s q (.pointer (some ⟨b,o + n,none⟩)))):=by
 unfold fav at hf
 split at hf
 ·rename_i gg o
  cases hf
  rcases hr with ⟨d,A,e,hr⟩ | ⟨q,e,_⟩
  ·cases e
   obtain ⟨b,ev,_,hg⟩:=p_inv hr
   exact ⟨b,o,ev,.inl ⟨_,rfl,.p _ _ _ hg .nil⟩⟩
  ·cases e
 ·rename_i cs o
  cases hf
  rcases hr with ⟨d,A,e,hr⟩ | ⟨q,e,_⟩
  ·cases e
   obtain ⟨b,o1,us,ev,_,hu,h1,hc⟩:=q_inv hr
   refine ⟨b,o1 + o,ev,.inl ⟨_,rfl,?_⟩⟩
   rw [Nat.add_assoc]
   exact .q _ _ b o1 us hu h1 hc .nil
  ·cases e
 ·rename_i k o
  cases hf
  rcases hr with ⟨d,A,e,hr⟩ | ⟨q,e,hq⟩
  ·cases e
  ·cases e
   obtain ⟨b,hl,ev⟩:=hq
   exact ⟨b,o,ev,.inr ⟨_,rfl,b,hl,rfl⟩⟩
 ·rename_i pl ix fo
  cases hf
  rcases hr with ⟨d,A,e,hr⟩ | ⟨q,e,hq⟩
  ·cases e
  ·cases e
   obtain ⟨b,o,len,cap,sz,xs,h1,h2,h3,ev⟩:=hq
   exact ⟨b,o + ix * sz + fo,ev,.inr ⟨_,rfl,b,o,len,cap,sz,xs,h1,h2,h3,by rw [Nat.add_assoc (o + ix * sz)]⟩⟩
 ·cases hf
def chkFa (P:Program) (t:TypeId) (j off:Nat):Bool:=match P.underlying t with
 | some (.struct fs)=>match fs[j]? with
  | some f=>f.offset == off && (match szT P f.type with | some m=>m != 0 | none=>false)
  | none=>false
 | _=>false
theorem o_fa {P B g F s a w Q o t j off x x' dst r s' ac OO meth} (h : Sm B g F s a w [] [] []) (hd : ∀ k, o.dst = some k → k < B.nt) (hop : o.op = .fieldAddr t x' j)
    (hx:chkX x x'=true) (hc:chkFa P t j off=true) (he:evO OO meth (.fa off x) s dst=some (r,s',ac)):Done P B o a w Q s' r:=by
 simp only [evO] at he
 split at he
 ·rename_i r1 s1 h1
  simp only [Option.map_eq_some_iff] at he
  obtain ⟨r2,h3,h4⟩:=he
  cases h4
  unfold chkFa at hc
  split at hc
  ·rename_i fs hfs
   split at hc
   ·rename_i f hf
    simp only [Bool.and_eq_true,beq_iff_eq] at hc
    obtain ⟨c1,c2⟩:=hc
    split at c2
    ·rename_i m hm
     simp at c2
     have fin:∀ {F' Fx ds vs},Sm B g F' s' a w ds vs Fx → ((∃ d A,r1=.v d ∧ g.rv w [d] [a.eval x'] A) ∨ (∃ q,r1=.q q ∧ qOK g w s' q (a.eval x'))) → Done P B o a w Q s' r:=by
      intro F' Fx ds vs k hr
      obtain ⟨b,o1,ev,hh⟩:=ptr_off k hr off h3
      have hrun:(execOp a.eval o).run P w=.ok (.value (.pointer (some ⟨b,o1 + off,none⟩))) w:=by
       simp [execOp,hop,ev,Instr.fieldAt,underlying,hfs,hf,Instr.sureAddr,fieldPlace,run_sizeOf hm,c2,c1,add_addr]
      rcases hh with ⟨d,rfl,hr⟩ | ⟨q,rfl,hq⟩
      ·exact done_v hd hrun (k.drop hr)
      ·exact done_q hd hrun k hq
     rcases rx_sim h hx h1 with ⟨d,F',Fy,rfl,k⟩ | ⟨q,F',rfl,k,hq⟩
     ·obtain ⟨A,hA⟩:=k.last
      exact fin k (.inl ⟨d,A,rfl,hA⟩)
     ·exact fin k (.inr ⟨q,rfl,hq⟩)
    ·cases c2
   ·cases hc
  ·cases hc
 ·cases he
def NilOK (P:Program) (t:TypeId) (nm:String) (f:FuncId):Prop:=f < Q0 → ∀ v w,(nilAhead (P.types.size + Made.depth) t v nm).run P w=.ok (some false) w
theorem o_nc {P B g F s a w Q o x x' dst r s' ac OO meth} (h : Sm B g F s a w [] [] []) (hd : ∀ k, o.dst = some k → k < B.nt) (hM : ∀ t nm f, meth t nm = some f → NilOK P t nm f) (hop : o.op = .nilCheck x')
    (hx:chkX x x'=true) (he:evO OO meth (.nc x) s dst=some (r,s',ac)):Done P B o a w Q s' r:=by
 have hv:∀ {ad},a.eval x'=.pointer (some ad) → (execOp a.eval o).run P w=.ok (.value (a.eval x')) w:=by
  intro ad e; simp [execOp,hop,e]
 simp only [evO] at he
 split at he
 ·rename_i r1 off1 s1 h1
  cases he
  rcases rx_sim h hx h1 with ⟨d,F',Fy,e,k⟩ | ⟨q,F',e,k,hq⟩
  ·cases e
   obtain ⟨A,hA⟩:=k.last
   obtain ⟨b,ev,_,_⟩:=p_inv hA
   exact done_v hd (hv ev) (by simpa using k)
  ·cases e
 ·rename_i cs1 off1 s1 h1
  cases he
  rcases rx_sim h hx h1 with ⟨d,F',Fy,e,k⟩ | ⟨q,F',e,k,hq⟩
  ·cases e
   obtain ⟨A,hA⟩:=k.last
   obtain ⟨b,o1,us,ev,_⟩:=q_inv hA
   exact done_v hd (hv ev) (by simpa using k)
  ·cases e
 ·rename_i t1 d1 s1 h1
  cases he
  rcases rx_sim h hx h1 with ⟨d,F',Fy,e,k⟩ | ⟨q,F',e,k,hq⟩
  ·cases e
   obtain ⟨A,hA⟩:=k.last
   obtain ⟨v,ev⟩:∃ v,a.eval x'=.iface t1 v:=by
    generalize a.eval x'=y at hA
    cases hA with
    | ic _ _ v hc hr=>exact ⟨v,rfl⟩
   exact done_v (w':=w) hd (v:=a.eval x') (by simp [execOp,hop,ev]) (by simpa using k)
  ·cases e
 ·rename_i nm1 d1 s1 h1
  split at he
  ·rename_i hb
   cases he
   rcases rx_sim h hx h1 with ⟨d,F',Fy,e,k⟩ | ⟨q,F',e,k,hq⟩
   ·cases e
    obtain ⟨A,hA⟩:=k.last
    obtain ⟨u,ev,_,hu⟩:=bm_inv hA
    cases d1 with
    | ic t d2 =>
     obtain ⟨u2,rfl,_,_⟩:=ic_inv hu
     simp only [bmOK] at hb
     split at hb
     ·rename_i f hf
      have hn:=hM t nm1 f hf (by simpa using hb) u2 w
      exact done_v (w':=w) hd (v:=a.eval x') (by simp [execOp,hop,ev,hn]) (by simpa using k)
     ·cases hb
    | _=>simp [bmOK] at hb
   ·cases e
  ·cases he
 ·rename_i q1 s1 h1
  rcases rx_sim h hx h1 with ⟨d,F',Fy,e,k⟩ | ⟨q,F',e,k,hq⟩
  ·cases e
  ·cases e
   split at he
   ·cases he
    obtain ⟨b,hl,ev⟩:=hq
    exact done_q hd (hv ev) k ⟨b,hl,ev⟩
   ·cases he
    obtain ⟨b,o,len,cap,sz,xs,g1,g2,g3,ev⟩:=hq
    exact done_q hd (hv ev) k ⟨b,o,len,cap,sz,xs,g1,g2,g3,ev⟩
   ·cases he
 ·cases he
theorem o_bits {P B g F s a w Q o f x x' at_ dst r s' ac OO meth} (h : Sm B g F s a w [] [] []) (hd : ∀ k, o.dst = some k → k < B.nt) (hop : o.op = .call { callee := .value (.func f), args := #[x'], argTypes := at_ })
    (hx:chkX x x'=true) (hf:∀ n w,(callFunc f #[.float .f64 n]).run P w=.ok (.value (.int .u64 n)) w) (he:evO OO meth (.bits x) s dst=some (r,s',ac)):Done P B o a w Q s' r:=by
 simp only [evO] at he
 split at he
 ·rename_i n s1 h1
  cases he
  obtain ⟨F1,Fy,k⟩:=rx1_sim h hx h1
  have e1:=float_inv k.ex
  exact done_v (w':=w) hd (v:=.int .u64 n) (by simp [execOp,hop,resolve,Act.eval,Deferred.ofValue,invoke]; have:=hf n w; simp [Act.eval] at e1; simp [e1,this]) (k.drop (.i _ _ .nil))
 ·cases he
theorem o_frbits {P B g F s a w Q o f x x' at_ dst r s' ac OO meth} (h : Sm B g F s a w [] [] []) (hd : ∀ k, o.dst = some k → k < B.nt) (hop : o.op = .call { callee := .value (.func f), args := #[x'], argTypes := at_ })
    (hx:chkX x x'=true) (hf:∀ n w,(callFunc f #[.int .u64 n]).run P w=.ok (.value (.float .f64 n.toNat)) w) (he:evO OO meth (.frbits x) s dst=some (r,s',ac)):Done P B o a w Q s' r:=by
 simp only [evO] at he
 split at he
 ·rename_i n s1 h1
  split at he
  ·cases he
   obtain ⟨F1,Fy,k⟩:=rx1_sim h hx h1
   have e1:=int_inv k.ex
   exact done_v (w':=w) hd (v:=.float .f64 n.toNat) (by simp [execOp,hop,resolve,Act.eval,Deferred.ofValue,invoke]; have:=hf n w; simp [Act.eval] at e1; simp [e1,this]) (k.drop (.f _ _ .nil))
  ·cases he
 ·cases he
def chkTa (P:Program) (t:TypeId):Bool:=match P.underlying t with
 | some (.interface _)=>false
 | some _=>true
 | none=>false
theorem o_ta {P B g F s a w Q o t xt x x' dst r s' ac OO meth} (h : Sm B g F s a w [] [] []) (hd : ∀ k, o.dst = some k → k < B.nt) (hop : o.op = .typeAssert x' xt t false)
    (hx:chkX x x'=true) (hc:chkTa P t=true) (he:evO OO meth (.ta t x) s dst=some (r,s',ac)):Done P B o a w Q s' r:=by
 simp only [evO] at he
 split at he
 ·rename_i t' d s1 h1
  split at he
  ·rename_i e; subst e
   cases he
   obtain ⟨F1,Fy,k⟩:=rx1_sim h hx h1
   obtain ⟨u,ev,_,hu⟩:=ic_inv k.ex
   refine done_v (w':=w) hd (v:=u) ?_ (k.drop hu)
   unfold chkTa at hc
   split at hc
   ·cases hc
   ·rename_i dd hne hdd
    simp only [execOp,hop,ev,Instr.typeAssert,Sem.run_bind,underlying,run_program,Result.andThen_ok,hdd,Sem.run_pure]
    cases dd <;> first
     | (exact absurd rfl (hne _))
     | (simp; done)
     | rfl
   ·cases hc
  ·cases he
 ·cases he
theorem mx_run {P : Program} {w : World} {im gl w1} (big : Bool) : ∀ (ds : List D) (m : Int) (k : IntKind) (vs : List Value) (A : List Nat) (d : D), mxv big m ds k = some d → RVs im gl w1 ds vs A →
    ∃ n,d=.i k n ∧ (vs.foldlM (if big then Builtin.max2 else Builtin.min2) (.int k m)).run P w=.ok (.int k n) w
 | [],m,k,vs,A,d,h,hr=>by
  simp [mxv] at h
  cases hr
  exact ⟨m,h.symm,by simp⟩
 | e :: ds,m,k,vs,A,d,h,hr=>by
  cases e <;> simp [mxv] at h
  rename_i k' y
  obtain ⟨rfl,h⟩:=h
  obtain ⟨v,us,A1,A2,rfl,rfl,h1,h2⟩:=RVs.cons_inv hr
  have ev:=int_inv h1
  subst ev
  cases big with
  | true =>
   obtain ⟨n,e1,e2⟩:=mx_run true ds _ k us A2 d h h2
   refine ⟨n,e1,?_⟩
   simp only [if_true,List.foldlM_cons,Sem.run_bind,Builtin.max2,Sem.run_pure,Result.andThen_ok] at e2 ⊢
   exact e2
  | false =>
   obtain ⟨n,e1,e2⟩:=mx_run false ds _ k us A2 d h h2
   refine ⟨n,e1,?_⟩
   simp only [Bool.false_eq_true,if_false,List.foldlM_cons,Sem.run_bind,Builtin.min2,Sem.run_pure,Result.andThen_ok] at e2 ⊢
   exact e2
theorem o_mx {P B g F s a w Q o big xs c dst r s' ac OO meth} (h : Sm B g F s a w [] [] []) (hd : ∀ k, o.dst = some k → k < B.nt) (hop : o.op = .call c) (hb : c.callee = .builtin (if big then .max else .min))
    (hx:chkXs xs c.args.toList=true) (he:evO OO meth (.mx big xs) s dst=some (r,s',ac)):Done P B o a w Q s' r:=by
 simp only [evO] at he
 split at he
 ·rename_i k1 m ds s1 h1
  simp only [Option.map_eq_some_iff] at he
  obtain ⟨q,h3,h4⟩:=he
  cases h4
  obtain ⟨F1,Fy,k,_⟩:=rxs_sim h hx h1
  obtain ⟨v,us,A1,A2,ev,_,hr1,hr2⟩:=RVs.cons_inv (show g.rv w (.i k1 m :: ds) (c.args.toList.map a.eval) Fy by simpa using k.ex)
  have e1:=int_inv hr1
  subst e1
  obtain ⟨n,rfl,hrun⟩:=mx_run (P:=P) (w:=w) big ds m k1 us A2 _ h3 hr2
  refine done_v (w':=w) hd (v:=.int k1 n) ?_ (k.drop (.i _ _ .nil))
  have hargs:(c.args.map a.eval).toList=.int k1 m :: us:=by simpa using ev
  cases big with
  | true=>simp only [execOp,hop,resolve,hb,if_true,Sem.run_bind,Sem.run_pure,Result.andThen_ok,invoke,builtin,Builtin.max_,hargs,hrun] at hrun ⊢; simp [hrun]
  | false=>simp only [execOp,hop,resolve,hb,Bool.false_eq_true,if_false,Sem.run_bind,Sem.run_pure,Result.andThen_ok,invoke,builtin,Builtin.min_,hargs] at hrun ⊢; simp [hrun]
 ·cases he
end Go.AM

namespace Go.AM
theorem stb_cells {im gl w d v F} (h:RVs im gl w [d] [v] F) (hs:stb d=true):RVs im gl w d.cells v.cells.toList F ∧ (∀ u ∈ v.cells.toList,u.oneCell'=true):=by
 cases h with
 | a cs us h1 hc h=>cases h; exact ⟨by simpa [D.cells,Value.cells] using hc,by simpa [Value.cells] using h1⟩
 | t cs us hc h=>simp [stb] at hs
 | u h=>simp [stb] at hs
 | w v h=>simp [stb] at hs
 | b x h=>cases h; exact ⟨.b _ .nil,by simp [Value.cells,Value.oneCell']⟩
 | i k n h=>cases h; exact ⟨.i _ _ .nil,by simp [Value.cells,Value.oneCell']⟩
 | f k n h=>cases h; exact ⟨.f _ _ .nil,by simp [Value.cells,Value.oneCell']⟩
 | s x h=>cases h; exact ⟨.s _ .nil,by simp [Value.cells,Value.oneCell']⟩
 | nilp h=>cases h; exact ⟨.nilp .nil,by simp [Value.cells,Value.oneCell']⟩
 | p r off b hg h=>cases h; exact ⟨.p _ _ _ hg .nil,by simp [Value.cells,Value.oneCell']⟩
 | q cs off b o us hu h1 hc h=>cases h; exact ⟨.q _ _ _ _ us hu h1 hc .nil,by simp [Value.cells,Value.oneCell']⟩
 | lnil k sz h=>cases h; exact ⟨.lnil _ _ .nil,by simp [Value.cells,Value.oneCell']⟩
 | lez k hk sz x cap hn h=>cases h; exact ⟨.lez k hk _ _ _ hn .nil,by simp [Value.cells,Value.oneCell']⟩
 | lz k hk sz xs b o cap us hcap hn hs' hu h1 hc h=>cases h; exact ⟨.lz k hk sz xs b o cap us hcap hn hs' hu h1 hc .nil,by simp [Value.cells,Value.oneCell']⟩
 | lo sz xs b o cap us hcap hs' hu h1 hr hi hc h=>cases h; exact ⟨.lo sz xs b o cap us hcap hs' hu h1 hr hi hc .nil,by simp [Value.cells,Value.oneCell']⟩
 | lx sz xs b o cap us hcap hs' hu h1 hr hi hc h=>cases h; exact ⟨by have:=RVs.lx sz xs b o cap us hcap hs' hu h1 hr hi hc (.nil (im:=im) (gl:=gl) (w:=w)); simpa [D.cells,Value.cells] using this,by simp [Value.cells,Value.oneCell']⟩
 | ic ty d v hc h=>cases h; exact ⟨.ic _ _ _ hc .nil,by simp [Value.cells,Value.oneCell']⟩
 | bm nm d v hc h=>cases h; exact ⟨.bm _ _ _ hc .nil,by simp [Value.cells,Value.oneCell']⟩
 | nili h=>cases h; exact ⟨.nili .nil,by simp [Value.cells,Value.oneCell']⟩
 | fn g cs us hg hc h=>cases h; exact ⟨.fn _ _ us hg hc .nil,by simp [Value.cells,Value.oneCell']⟩
 | nilf h=>cases h; exact ⟨.nilf .nil,by simp [Value.cells,Value.oneCell']⟩
 | mp r h=>cases h; exact ⟨.mp r .nil,by simp [Value.cells,Value.oneCell']⟩
 | mo r b hb h=>cases h; exact ⟨.mo r b hb .nil,by simp [Value.cells,Value.oneCell']⟩
theorem rOK.forget {g g' : G} {w w' : World} {s s' : St} {r : R} {v : Value} {F : List Nat} (p : Q → Bool) (h : rOK g w s r v F)
    (hq:∀ q,p q=false → qOK g w s q v → qOK g' w' s' q v) (hv:∀ d,g.rv w [d] [v] F → g'.rv w' [d] [v] F) :
    rOK g' w' s' (fgt p r) v F:=by
 cases r with
 | v d=>exact hv d h
 | q x =>
  obtain ⟨rfl,h2⟩:=h
  unfold fgt
  split
  ·rename_i d e; cases e
  ·rename_i y e; cases e
   split
   ·exact .w _ .nil
   ·rename_i hp; exact ⟨rfl,hq x (by simpa using hp) h2⟩
theorem qOK.other {g g' : G} {w w' : World} {s s' : St} {q : Q} {v : Value} {k : Nat} (h : qOK g w s q v) (hk : Q.ofk k q = false)
    (hl:∀ j,j ≠ k → g'.lc j=g.lc j) (hg:∀ r b,g.gl r=some b → g'.gl r=some b)
    (hb:∀ pl u,(∀ off,pl ≠ .ob k off) → plHdr g w pl u → plHdr g' w' pl u) (ha:∀ pl,(∀ off,pl ≠ .ob k off) → s'.at pl=s.at pl):qOK g' w' s' q v:=by
 cases q with
 | ptr j off =>
  obtain ⟨b,h1,h2⟩:=h
  exact ⟨b,by rw [hl j (by simpa [Q.ofk] using hk)]; exact h1,h2⟩
 | hdr j=>exact (hl j (by simpa [Q.ofk] using hk)).trans h
 | hd pl =>
  refine hb pl v ?_ h
  rintro off rfl
  simp [Q.ofk] at hk
 | el pl ix fo =>
  have hne:∀ off,pl ≠ .ob k off:=by rintro off rfl; simp [Q.ofk] at hk
  obtain ⟨b,o,len,cap,sz,xs,h1,h2,h3,h4⟩:=h
  exact ⟨b,o,len,cap,sz,xs,hb _ _ hne h1,(ha pl hne).trans h2,h3,h4⟩
theorem look_cons {α : Type} (k j:Nat) (x:α) (l:List (Nat × α)):look j ((k,x) :: l)=if k=j then some x else look j l:=rfl
theorem Sm.newob {B g F s a w ds vs Fx} (h : Sm B g F s a w ds vs Fx) (k : Nat) (cs : List D) (us : Array Value) (t : TypeId) (hr : g.rv w cs us.toList Fx) (h1 : ∀ v ∈ us.toList, v.oneCell' = true) :
    ∃ g' F',Sm B g' F' { s with ob:=(k,cs) :: s.ob,fr:=forget (Q.ofk k) s.fr } a (w.alloc (.cells us t)) [] [] [] ∧ g'.lc k=some (.inl w.heap.size):=by
 have h':=h.alloc (.cells us t)
 have hnt:¬ Tot F Fx w.heap.size:=fun hc=>by have:=(h.lt _ hc).1; omega
 have hnew:=heap_alloc_new w (.cells us t)
 have hold:∀ c,c < w.heap.size → (w.alloc (.cells us t)).heap[c]? = w.heap[c]? := fun c hc=>heap_alloc_old w _ c hc
 refine ⟨{ g with lc:=fun j=>if j=k then some (.inl w.heap.size) else g.lc j },ups F (.ob k) (w.heap.size :: Fx),?_,by simp⟩
 refine { h' with sl:=?_,ob:=?_,gb:=?_,ex:=.nil,lcd:=?_,dslot:=?_,dob:=?_,dgb:=?_,dj:=?_,lt:=?_ }
 ·intro j r hj
  rw [look_forget] at hj
  cases e:look j s.fr with
  | none=>rw [e] at hj; cases hj
  | some r0 =>
   rw [e] at hj; simp only [Option.map_some] at hj; cases hj
   obtain ⟨v,hv,hr0⟩:=h.sl j r0 e
   refine ⟨v,hv,?_⟩
   rw [ups_ne _ _ (by simp)]
   refine hr0.forget _ (fun q hq hqo=>?_) (fun d hd=>hd.frame (fun _ _ _ e=>e) (fun _ _ e=>e) (fun c hc=>⟨fun _=>rfl,hold c (h.lt c (.inr ⟨_,hc⟩)).1⟩))
   refine hqo.other hq (fun i hi=>by simp [hi]) (fun _ _ e=>e) ?_ ?_
   ·intro pl u hne hp
    have:=hp.of_blocks (w':=w.alloc (.cells us t)) hold
    cases pl with
    | ob i off =>
     have hik:i ≠ k:=fun e=>hne off (by rw [e])
     simpa [plHdr,hik] using this
    | gb r off=>exact this
   ·intro pl hne
    cases pl with
    | ob i off =>
     have hik:¬ k=i:=fun e=>hne off (by rw [e])
     simp [St.at,look_cons,hik]
    | gb r off=>rfl
 ·intro j cs' hj
  simp only [look_cons] at hj
  split at hj
  ·rename_i e; subst e
   cases hj
   simp only [obOK,if_true]
   rw [ups_same]
   exact ⟨us,t,(0,0),Fx,hnew,fun j hj=>frozen_of_row _ _ _ _ _ hnew,h1,fun j=>h.imlt (Nat.le_refl _) j,rfl,hr.frame (fun _ _ _ e=>e) (fun _ _ e=>e) (fun c hc=>⟨fun _=>rfl,hold c (h.lt c (.inl hc)).1⟩)⟩
  ·rename_i hne
   have:=h'.ob j cs' hj
   rw [ups_ne _ _ (by simp; omega)]
   unfold obOK at this ⊢
   dsimp only
   rw [if_neg (by omega)]
   cases e:g.lc j with
   | none=>rw [e] at this; exact this
   | some x=>rw [e] at this; cases x <;> exact this
 ·intro r cs' hj
  rw [ups_ne _ _ (by simp)]
  exact h'.gb r cs' hj
 ·intro j x hj
  simp only [look_cons]
  split
  ·exact ⟨_,rfl⟩
  ·rename_i hne
   dsimp only at hj
   rw [if_neg (by omega)] at hj
   exact h.lcd j x hj
 ·intro j hj
  rw [look_forget] at hj
  rw [ups_ne _ _ (by simp)]
  exact h.dslot j (by cases e:look j s.fr <;> simp [e] at hj ⊢)
 ·intro j hj
  simp only [look_cons] at hj
  split at hj
  ·cases hj
  ·rename_i hne; rw [ups_ne _ _ (by simp; omega)]; exact h.dob j hj
 ·intro j hj; rw [ups_ne _ _ (by simp)]; exact h.dgb j hj
 ·have:=(h.dj.new hnt)
  exact Dj.into (L:=w.heap.size :: Fx) (Fx:=[]) (by simpa using this) _
 ·intro b hb
  rcases hb.ups with hb | hb
  ·rcases List.mem_cons.1 hb with rfl | hb
   ·exact ⟨by simp,.inr h.hs⟩
   ·exact h'.lt b (.inl hb)
  ·exact h'.lt b (hb.sub (by simp))
theorem Sm.newgb {B g F s a w ds vs Fx} (h : Sm B g F s a w ds vs Fx) (cs : List D) (us : Array Value) (t : TypeId) (hr : g.rv w cs us.toList Fx) (h1 : ∀ v ∈ us.toList, v.oneCell' = true) :
    ∃ g' F',Sm B g' F' { s with sg:=s.sg ++ [cs] } a (w.alloc (.cells us t)) [] [] [] ∧ g'.gl s.sg.length=some (w.heap.size,false):=by
 have h':=h.alloc (.cells us t)
 have hnt:¬ Tot F Fx w.heap.size:=fun hc=>by have:=(h.lt _ hc).1; omega
 have hnew:=heap_alloc_new w (.cells us t)
 have hold:∀ c,c < w.heap.size → (w.alloc (.cells us t)).heap[c]? = w.heap[c]? := fun c hc=>heap_alloc_old w _ c hc
 have hgn:g.gl s.sg.length=none:=by
  cases e:g.gl s.sg.length with
  | none=>rfl
  | some b=>have:=h.glb _ _ e; omega
 have hgm:∀ r b,g.gl r=some b → (fun r=>if r=s.sg.length then some (w.heap.size,false) else g.gl r) r=some b:=by
  intro r b e
  have:=h.glb r b e
  simp only
  rw [if_neg (by omega)]; exact e
 have hfr:∀ {L ds vs},(∀ b ∈ L,Tot F Fx b) → g.rv w ds vs L → RVs g.im (fun r=>if r=s.sg.length then some (w.heap.size,false) else g.gl r) (w.alloc (.cells us t)) ds vs L :=
  fun hL hr=>hr.frame (fun _ _ _ e=>e) hgm (fun c hc=>⟨fun _=>rfl,hold c (h.lt c (hL c hc)).1⟩)
 have hown:∀ {b cs L},(∀ b ∈ L,Tot F Fx b) → Own g w b cs L → Own { g with gl:=fun r=>if r=s.sg.length then some (w.heap.size,false) else g.gl r,gp:=fun r=>if r=s.sg.length then some w.heap.size else g.gp r } (w.alloc (.cells us t)) b cs L:=by
  intro b cs L hL ho
  obtain ⟨c,t,f,F',k1,k2,k3,k4,rfl,k6⟩:=ho
  have e:=hold b (h.lt b (hL b (by simp))).1
  exact ⟨c,t,f,F',e.trans k1,fun j hj=>(World.frozen?_of_block (w:=w) (a:=⟨b,j,none⟩) e).trans (k2 j hj),k3,k4,rfl,hfr (fun b hb=>hL b (by simp [hb])) k6⟩
 have hgp:∀ r b,g.gp r=some b → (fun r=>if r=s.sg.length then some w.heap.size else g.gp r) r=some b:=by
  intro r b e
  have:=h.glb r _ (h.gpl r b e)
  simp only
  rw [if_neg (by omega)]; exact e
 refine ⟨{ g with gl:=fun r=>if r=s.sg.length then some (w.heap.size,false) else g.gl r,gp:=fun r=>if r=s.sg.length then some w.heap.size else g.gp r },ups F (.gb s.sg.length) (w.heap.size :: Fx),?_,by simp⟩
 refine { h' with sl:=?_,ob:=?_,gb:=?_,ex:=.nil,dslot:=?_,dob:=?_,dgb:=?_,dj:=?_,lt:=?_,gl0:=?_,glb:=?_,gpl:=?_,sgl:=?_,refs:=?_ }
 ·intro j r hj
  obtain ⟨v,hv,hr0⟩:=h.sl j r hj
  refine ⟨v,hv,?_⟩
  rw [ups_ne _ _ (by simp)]
  cases r with
  | v d=>exact hfr (fun b hb=>.inr ⟨_,hb⟩) hr0
  | q q =>
   refine ⟨hr0.1,hr0.2.of_same (fun _ _ e=>e) ?_ ?_⟩
   ·intro pl u hp
    have:=hp.of_blocks (w':=w.alloc (.cells us t)) hold
    cases pl with
    | ob i off=>exact this
    | gb r off=>obtain ⟨b,e1,e2⟩:=this; exact ⟨b,hgp _ _ e1,e2⟩
   ·intro pl sz xs e
    refine ⟨xs,?_,rfl⟩
    cases pl with
    | ob i off=>exact e
    | gb r off =>
     simp only [St.at] at e ⊢
     cases e1:s.sg[r]? with
     | none=>rw [e1] at e; cases e
     | some cs0 =>
      have:r < s.sg.length:=by rw [List.getElem?_eq_some_iff] at e1; exact e1.1
      rw [List.getElem?_append_left this,e1]
      rw [e1] at e; exact e
 ·intro j cs' hj
  rw [ups_ne _ _ (by simp)]
  have:=h.ob j cs' hj
  unfold obOK at this ⊢
  dsimp only
  cases e:g.lc j with
  | none=>rw [e] at this; exact this
  | some x =>
   rw [e] at this
   cases x with
   | inl b=>exact hown (fun b hb=>.inr ⟨_,hb⟩) this
   | inr v=>obtain ⟨d,e1,e2⟩:=this; exact ⟨d,e1,hfr (fun b hb=>.inr ⟨_,hb⟩) e2⟩
 ·intro r cs' hj
  by_cases hlt:r < s.sg.length
  ·rw [List.getElem?_append_left hlt] at hj
   rw [ups_ne _ _ (by simp; omega)]
   exact (h.gb r cs' hj).framed (by dsimp only; rw [if_neg (by omega)]) hgm (fun _ _ _ e=>e) (fun b hbm=>⟨fun _=>rfl,hold b (h.lt b (.inr ⟨_,hbm⟩)).1⟩)
  ·have hr0:r=s.sg.length:=by
    rw [List.getElem?_append_right (by omega)] at hj
    rw [List.getElem?_eq_some_iff] at hj
    obtain ⟨h0,_⟩:=hj
    simp at h0; omega
   subst hr0
   rw [List.getElem?_append_right (by omega)] at hj
   simp at hj
   subst hj
   rw [ups_same]
   refine .inl ⟨w.heap.size,by simp,us,t,(0,0),Fx,hnew,fun j hj=>frozen_of_row _ _ _ _ _ hnew,h1,fun j=>h.imlt (Nat.le_refl _) j,rfl,hfr (fun b hb=>.inl hb) hr⟩
 ·intro j hj; rw [ups_ne _ _ (by simp)]; exact h.dslot j hj
 ·intro j hj; rw [ups_ne _ _ (by simp)]; exact h.dob j hj
 ·intro j hj
  have:s.sg.length < j:=by
   rw [List.getElem?_eq_none_iff] at hj
   simp at hj; omega
  rw [ups_ne _ _ (by simp; omega)]
  exact h.dgb j (List.getElem?_eq_none (by omega))
 ·have:=(h.dj.new hnt)
  exact Dj.into (L:=w.heap.size :: Fx) (Fx:=[]) (by simpa using this) _
 ·intro b hb
  rcases hb.ups with hb | hb
  ·rcases List.mem_cons.1 hb with rfl | hb
   ·exact ⟨by simp,.inr h.hs⟩
   ·exact h'.lt b (.inl hb)
  ·exact h'.lt b (hb.sub (by simp))
 ·intro r b e; exact hgm r b (h.gl0 r b e)
 ·intro r b e
  simp only at e
  split at e
  ·simp; omega
  ·have:=h.glb r b e; simp; omega
 ·intro r b e
  simp only at e ⊢
  split at e
  ·rename_i h0; rw [if_pos h0]; cases e; rfl
  ·rename_i h0; rw [if_neg h0]; exact h.gpl r b e
 ·have:=h.sgl; simp; omega
 ·intro m r c0 c1 hlo e0 e1 hn
  have hlt:r < B.sg0.length:=by rw [List.getElem?_eq_some_iff] at e0; exact e0.1
  have:=h.sgl
  rw [List.getElem?_append_left (by omega)] at e1
  exact h.refs m r c0 c1 hlo e0 e1 hn
end Go.AM

namespace Go.AM
theorem RVs.ovr {im gl w cs us F ds ts H} (h : RVs im gl w cs us F) (k : RVs im gl w ds ts H) {off : Nat} (hle : off + ds.length ≤ cs.length) :
    ∃ A M C,F=A ++ (M ++ C) ∧ RVs im gl w (ovr cs off ds) (us.take off ++ ts ++ us.drop (off + ds.length)) (A ++ H ++ C):=by
 have e:cs=cs.take off ++ ((cs.drop off).take ds.length ++ cs.drop (off + ds.length)):=by
  rw [show cs.drop (off + ds.length)=(cs.drop off).drop ds.length by rw [List.drop_drop],List.take_append_drop,List.take_append_drop]
 have h0:=h
 rw [e] at h0
 obtain ⟨u1,t1,A1,C1,e1,e2,l1,h1,h2⟩:=RVs.append_inv _ h0
 obtain ⟨u2,t2,A2,C2,e3,e4,l2,h3,h4⟩:=RVs.append_inv _ h2
 subst e1 e2 e3 e4
 have q1:u1.length=off:=by rw [l1]; simp; omega
 have q2:u2.length=ds.length:=by rw [l2]; simp; omega
 refine ⟨A1,A2,C2,rfl,?_⟩
 have d1:(u1 ++ (u2 ++ t2)).take off=u1:=by rw [← q1,List.take_left]
 have d2:(u1 ++ (u2 ++ t2)).drop (off + ds.length)=t2:=by
  rw [← List.drop_drop,← q1,List.drop_left,← q2,List.drop_left]
 rw [d1,d2]
 exact (h1.append k).append h4
theorem fold_ovr (arr : Array Value) (off : Nat) (l : List Value) (hle : off + l.length ≤ arr.size) :
    ((l.zipIdx 0).foldl (fun cs (x:Value × Nat)=>cs.setIfInBounds (off + x.2) x.1) arr).toList=arr.toList.take off ++ l ++ arr.toList.drop (off + l.length):=by
 obtain ⟨h1,h2⟩:=Great.foldl_set off l 0 arr
 apply List.ext_getElem?
 intro k
 have hk:=h2 k
 rw [← Array.getElem?_toList] at hk
 rw [hk]
 by_cases a:k < off
 ·rw [if_neg (by omega),List.append_assoc,List.getElem?_append_left (by simp; omega),List.getElem?_take,if_pos a,Array.getElem?_toList]
 ·by_cases b:k < off + l.length
  ·rw [if_pos (by omega),List.append_assoc,List.getElem?_append_right (by simp; omega),List.getElem?_append_left (by simp; omega)]
   congr 1; simp; omega
  ·rw [if_neg (by omega),List.getElem?_append_right (by simp; omega),List.getElem?_drop,Array.getElem?_toList]
   congr 1; simp; omega
def chkPs (place:Nat → Option (Nat × Nat)):List (Nat × Nat × X) → List (Nat × Operand) → Bool
 | [],[] => true
 | p :: ps,q :: qs=>place q.1 == some (p.1,p.2.1) && chkX p.2.2 q.2 && chkPs place ps qs
 | _,_=>false
theorem chkPs_xs {place}:∀ {ps:List (Nat × Nat × X)} {qs:List (Nat × Operand)},chkPs place ps qs=true → chkXs (ps.map (·.2.2)) (qs.map (·.2))=true
 | [],[],_=>rfl
 | p :: ps,q :: qs,h=>by
  simp only [chkPs,Bool.and_eq_true] at h
  simp only [List.map_cons,chkXs,Bool.and_eq_true]
  exact ⟨h.1.2,chkPs_xs h.2⟩
 | [],_ :: _,h=>by simp [chkPs] at h
 | _ :: _,[],h=>by simp [chkPs] at h
theorem chkPs_len {place}:∀ {ps:List (Nat × Nat × X)} {qs:List (Nat × Operand)},chkPs place ps qs=true → ps.length=qs.length
 | [],[],_=>rfl
 | p :: ps,q :: qs,h=>by simp only [chkPs,Bool.and_eq_true] at h; simp [chkPs_len h.2]
 | [],_ :: _,h=>by simp [chkPs] at h
 | _ :: _,[],h=>by simp [chkPs] at h
theorem fill_sim {im gl w} {a : Act} {place : Nat → Option (Nat × Nat)} : ∀ {ps : List (Nat × Nat × X)} {qs : List (Nat × Operand)} {ds : List D} {cs : List D} {arr : Array Value} {F Fr : List Nat} {cs' : List D},
    chkPs place ps qs=true → fillc cs ((ps.zip ds).map fun (p,d)=>(p.1,p.2.1,d))=some cs' → ds.length=ps.length → stbs ds=true →
    RVs im gl w cs arr.toList F → (∀ v ∈ arr.toList,v.oneCell'=true) → RVs im gl w ds (qs.map fun q=>a.eval q.2) Fr → (F ++ Fr).Nodup →
    ∃ arr' F',Instr.fill place arr (qs.map fun q=>(q.1,a.eval q.2))=some arr' ∧ RVs im gl w cs' arr'.toList F' ∧ (∀ v ∈ arr'.toList,v.oneCell'=true) ∧ (∀ b ∈ F',b ∈ F ++ Fr) ∧ F'.Nodup
 | [],[],ds,cs,arr,F,Fr,cs',hc,hf,hl,hs,hr,h1,hd,hn=>by
  cases ds <;> simp at hl
  simp [fillc] at hf
  subst hf
  exact ⟨arr,F,rfl,hr,h1,fun b hb=>by simp [hb],(List.nodup_append.1 hn).1⟩
 | p :: ps,q :: qs,ds,cs,arr,F,Fr,cs',hc,hf,hl,hs,hr,h1,hd,hn=>by
  cases ds with
  | nil=>simp at hl
  | cons d ds =>
   simp only [chkPs,Bool.and_eq_true,beq_iff_eq] at hc
   obtain ⟨⟨c1,c2⟩,c3⟩:=hc
   simp only [List.zip_cons_cons,List.map_cons,fillc] at hf
   split at hf
   ·rename_i hle
    obtain ⟨e1,e2⟩:=hle
    simp only [stbs,Bool.and_eq_true] at hs
    obtain ⟨v,us,A,C,ev,eF,k1,k2⟩:=RVs.cons_inv hd
    simp only [List.map_cons,List.cons.injEq] at ev
    obtain ⟨ev1,ev2⟩:=ev
    subst ev1 ev2
    obtain ⟨k3,k4⟩:=stb_cells k1 hs.1
    have hlen:=k3.length
    have hle':p.1 + d.cells.length ≤ cs.length:=by omega
    obtain ⟨A',M',C',eF',k5⟩:=hr.ovr k3 hle'
    have hsz:=hr.length
    have hfold:=fold_ovr arr p.1 (a.eval q.2).cells.toList (by simp at hlen hsz ⊢; omega)
    rw [hlen] at k5
    rw [← hfold] at k5
    subst eF eF'
    have hn1:((A' ++ A ++ C') ++ C).Nodup:=by
     simp only [List.nodup_append,List.mem_append] at hn ⊢
     grind
    obtain ⟨arr', F', r1, r2, r3, r4, r5⟩ := fill_sim c3 hf (by simpa using hl) hs.2 k5 (by
        intro u hu
        rw [hfold] at hu
        rcases List.mem_append.1 hu with hu | hu
        ·rcases List.mem_append.1 hu with hu | hu
         ·exact h1 u (List.mem_of_mem_take hu)
         ·exact k4 u hu
        ·exact h1 u (List.mem_of_mem_drop hu)) k2 hn1
    refine ⟨arr',F',?_,r2,r3,?_,r5⟩
    ·simp only [List.map_cons]
     unfold Instr.fill
     simp only [c1]
     have hcs:(a.eval q.2).cells.size=p.2.1:=by simp at hlen; omega
     rw [if_neg (by simp [hcs]; simp at hsz; omega)]
     rw [← r1]
     congr 1
     rw [← Array.foldl_toList,Array.toList_zipIdx]
    ·intro b hb
     have:=r4 b hb
     simp only [List.mem_append] at this ⊢
     grind
   ·cases hf
 | [],_ :: _,ds,cs,arr,F,Fr,cs',hc,hf,hl,hs,hr,h1,hd,hn=>by simp [chkPs] at hc
 | _ :: _,[],ds,cs,arr,F,Fr,cs',hc,hf,hl,hs,hr,h1,hd,hn=>by simp [chkPs] at hc
end Go.AM

namespace Go.AM
def zeroT (P:Program) (t:TypeId):Option Value:=(P.info? t).bind (·.zero)
theorem run_zero {P:Program} {t:TypeId} {v:Value} (h:zeroT P t=some v) (w:World):(zeroValue t).run P w=.ok v w:=by
 unfold zeroT at h
 cases e:P.info? t with
 | none=>simp [e] at h
 | some i=>simp [e] at h; simp [zeroValue,typeInfo,e,h]
def chkZ (P:Program) (t:TypeId) (z:List D):Bool:=match zeroT P t with
 | some v=>crs z v.cells.toList && v.cells.toList.all Value.oneCell'
 | none=>false
theorem chkZ_rv {P t z} (h:chkZ P t z=true):∃ v,zeroT P t=some v ∧ (∀ u ∈ v.cells.toList,u.oneCell'=true) ∧ ∀ im gl w,RVs im gl w z v.cells.toList [] := by
 unfold chkZ at h
 split at h
 ·rename_i v hv
  simp only [Bool.and_eq_true,List.all_eq_true] at h
  exact ⟨v,hv,h.2,fun _ _ _=>crs_rv _ _ h.1⟩
 ·cases h
theorem o_al {P B g F s a w Q o t z dst r s' ac OO meth} (h : Sm B g F s a w [] [] []) (hd : ∀ k, o.dst = some k → k < B.nt) (hop : o.op = .alloc t)
    (hc:chkZ P t z=true) (he:evO OO meth (.al z) s dst=some (r,s',ac)):Done P B o a w Q s' r:=by
 simp only [evO] at he
 split at he
 ·rename_i k
  cases he
  obtain ⟨v,hz,h1,hr⟩:=chkZ_rv hc
  obtain ⟨g',F',k1,k2⟩:=h.newob k z v.cells t (hr _ _ _) h1
  exact done_q hd (v:=.pointer (some ⟨w.heap.size,0,none⟩)) (by simp [execOp,hop,Instr.alloc,run_zero hz,newVar,newRow]) k1 ⟨_,k2,rfl⟩
 ·cases he
theorem o_ag {P B g F s a w Q o t z dst r s' ac OO meth} (h : Sm B g F s a w [] [] []) (hd : ∀ k, o.dst = some k → k < B.nt) (hop : o.op = .alloc t)
    (hc:chkZ P t z=true) (he:evO OO meth (.ag z) s dst=some (r,s',ac)):Done P B o a w Q s' r:=by
 simp only [evO] at he
 cases he
 obtain ⟨v,hz,h1,hr⟩:=chkZ_rv hc
 obtain ⟨g',F',k1,k2⟩:=h.newgb z v.cells t (hr _ _ _) h1
 exact done_v hd (v:=.pointer (some ⟨w.heap.size,0,none⟩)) (by simp [execOp,hop,Instr.alloc,run_zero hz,newVar,newRow]) (k1.drop (.p _ _ _ k2 .nil))
theorem o_bx {P B g F s a w Q o t x x' dst r s' ac OO meth} (h : Sm B g F s a w [] [] []) (hd : ∀ k, o.dst = some k → k < B.nt) (hop : o.op = .box t x')
    (hx:chkX x x'=true) (he:evO OO meth (.bx x) s dst=some (r,s',ac)):Done P B o a w Q s' r:=by
 simp only [evO] at he
 split at he
 ·rename_i k
  split at he
  ·rename_i d s1 h1
   split at he
   ·rename_i hst
    cases he
    obtain ⟨F1,Fy,k1⟩:=rx1_sim h hx h1
    obtain ⟨k2,k3⟩:=stb_cells k1.ex hst
    obtain ⟨g',F',k4,k5⟩:=k1.newob k d.cells (a.eval x').cells t k2 k3
    exact done_q hd (v:=.pointer (some ⟨w.heap.size,0,none⟩)) (by simp [execOp,hop,Instr.box,newVar,newRow]) k4 ⟨_,k5,rfl⟩
   ·cases he
  ·cases he
 ·cases he
theorem o_bg {P B g F s a w Q o t x x' dst r s' ac OO meth} (h : Sm B g F s a w [] [] []) (hd : ∀ k, o.dst = some k → k < B.nt) (hop : o.op = .box t x')
    (hx:chkX x x'=true) (he:evO OO meth (.bg x) s dst=some (r,s',ac)):Done P B o a w Q s' r:=by
 simp only [evO] at he
 split at he
 ·rename_i d s1 h1
  split at he
  ·rename_i hst
   cases he
   obtain ⟨F1,Fy,k1⟩:=rx1_sim h hx h1
   obtain ⟨k2,k3⟩:=stb_cells k1.ex hst
   obtain ⟨g',F',k4,k5⟩:=k1.newgb d.cells (a.eval x').cells t k2 k3
   exact done_v hd (v:=.pointer (some ⟨w.heap.size,0,none⟩)) (by simp [execOp,hop,Instr.box,newVar,newRow]) (k4.drop (.p _ _ _ k5 .nil))
  ·cases he
 ·cases he
def chkBd (P:Program) (t:TypeId) (z:List D) (ps:List (Nat × Nat × X)) (qs:List (Nat × Operand)):Bool :=
 chkZ P t z && match P.underlying t with
  | some (.struct fs)=>match fs.toList.mapM (fun f=>(P.info? f.type).map fun i=>(f.offset,i.size)) with
   | some pl=>chkPs (pl.toArray[·]?) ps qs
   | none=>false
  | some (.array _ e)=>match P.info? e with
   | some ie=>chkPs (fun i=>some (i * ie.size,ie.size)) ps qs
   | none=>false
  | _=>false
theorem o_bd {P B g F s a w Q o t z ps qs dst r s' ac OO meth} (h : Sm B g F s a w [] [] []) (hd : ∀ k, o.dst = some k → k < B.nt) (hop : o.op = .build t qs)
    (hc:chkBd P t z ps qs.toList=true) (he:evO OO meth (.bd z ps) s dst=some (r,s',ac)):Done P B o a w Q s' r:=by
 simp only [evO] at he
 split at he
 ·rename_i ds s1 h1
  split at he
  ·rename_i hst
   simp only [Option.map_eq_some_iff] at he
   obtain ⟨cs,h3,h4⟩:=he
   cases h4
   simp only [chkBd,Bool.and_eq_true] at hc
   obtain ⟨hz,hc⟩:=hc
   obtain ⟨zv,hzv,hz1,hzr⟩:=chkZ_rv hz
   have hpl:∃ place,chkPs place ps qs.toList=true ∧ ∀ parts cells,Instr.fill place zv.cells parts=some cells → P.built t parts=some cells:=by
    unfold zeroT at hzv
    cases ei:P.info? t with
    | none=>simp [ei] at hzv
    | some it =>
     simp [ei] at hzv
     split at hc
     ·rename_i fs hfs
      split at hc
      ·rename_i pl hpl
       exact ⟨_,hc,fun parts cells hf=>by simp only [Program.built,ei,hfs,hzv,hpl]; exact hf⟩
      ·cases hc
     ·rename_i n e hn
      split at hc
      ·rename_i ie hie
       exact ⟨_,hc,fun parts cells hf=>by simp only [Program.built,ei,hn,hzv,hie]; exact hf⟩
      ·cases hc
     ·cases hc
   obtain ⟨place,hps,hbuilt⟩:=hpl
   obtain ⟨F1,Fy,k1,hlen⟩:=rxs_sim h (chkPs_xs hps) h1
   have k1':Sm B g F1 s' a w ds (qs.toList.map fun q=>a.eval q.2) Fy:=by simpa [Function.comp_def] using k1
   have hl:ds.length=ps.length:=by rw [hlen,List.length_map,chkPs_len hps]
   obtain ⟨arr,F',r1,r2,r3,r4,r5⟩:=fill_sim (a:=a) (place:=place) (F:=[]) hps h3 hl hst (hzr g.im g.gl w) hz1 k1'.ex (by simpa using k1'.dj.ndx)
   have hrun:=run_build (P:=P) w t (qs.map fun (i,x)=>(i,a.eval x)) arr (hbuilt _ _ (by simpa using r1))
   have hrv:g.rv w [.a cs] [.agg arr] F':=by
    have:=RVs.a cs arr.toList r3 r2 (.nil (im:=g.im) (gl:=g.gl) (w:=w)); simpa using this
   exact done_v hd (v:=.agg arr) (by simp only [execOp,hop,Sem.run_bind,hrun,Result.andThen_ok,Sem.run_pure]) (k1'.weaken _ _ F' hrv (by simpa using r4) r5)
  ·cases he
 ·cases he
theorem cellsOf_append (a b:List D):cellsOf (a ++ b)=cellsOf a ++ cellsOf b:=by simp [cellsOf]
theorem cellsOf_set {sz:Nat}:∀ {xs:List D} {ix:Nat} {d:D},(∀ x ∈ xs,x.cells.length=sz) → d.cells.length=sz → ix < xs.length → cellsOf (xs.set ix d)=ovr (cellsOf xs) (ix * sz) d.cells
 | x :: xs,0,d,h,hd,hi=>by
  have hx:=h x (by simp)
  simp only [List.set_cons_zero,cellsOf,List.flatMap_cons,ovr,Nat.zero_mul,List.take_zero,List.nil_append,Nat.zero_add]
  rw [hd,List.drop_append,List.drop_of_length_le (by omega),hx]
  simp
 | x :: xs,ix + 1,d,h,hd,hi=>by
  have hx:=h x (by simp)
  have ih:=cellsOf_set (xs:=xs) (ix:=ix) (fun y hy=>h y (by simp [hy])) hd (by simpa using hi)
  simp only [List.set_cons_succ,cellsOf,List.flatMap_cons] at ih ⊢
  rw [ih]
  simp only [ovr,Nat.add_mul,Nat.one_mul]
  rw [List.take_append,List.take_of_length_le (l:=x.cells) (by omega),List.drop_append,List.drop_of_length_le (l:=x.cells) (by omega)]
  have e1:ix * sz + sz - x.cells.length=ix * sz:=by omega
  have e2:ix * sz + sz + d.cells.length - x.cells.length=ix * sz + d.cells.length:=by omega
  rw [e1,e2]
  simp
theorem fille_cells {sz : Nat} : ∀ {ps : List (Nat × D)} {xs xs' : List D}, (∀ x ∈ xs, x.cells.length = sz) → fille xs sz ps = some xs' →
    fillc (cellsOf xs) (ps.map fun p=>(p.1 * sz,sz,p.2))=some (cellsOf xs') ∧ xs'.length=xs.length ∧ (∀ x ∈ xs',x.cells.length=sz)
 | [],xs,xs',h,hf=>by simp [fille] at hf; subst hf; exact ⟨rfl,rfl,h⟩
 | p :: ps,xs,xs',h,hf=>by
  simp only [fille] at hf
  split at hf
  ·rename_i hc
   obtain ⟨c1,c2⟩:=hc
   have h':∀ x ∈ xs.set p.1 p.2,x.cells.length=sz:=by
    intro x hx
    rcases List.mem_or_eq_of_mem_set hx with hx | rfl
    ·exact h x hx
    ·exact c1
   obtain ⟨k1,k2,k3⟩:=fille_cells h' hf
   refine ⟨?_,by simpa using k2,k3⟩
   simp only [List.map_cons,fillc]
   have hl:=cellsOf_length h
   rw [if_pos ⟨c1,by rw [hl,← Nat.succ_mul]; exact Nat.mul_le_mul_right _ c2⟩,← cellsOf_set h c1 c2]
   exact k1
  ·cases hf
theorem made_list (zc:Array Value):∀ (n:Nat),((Array.range (n * zc.size)).map (zc[· % zc.size]!)).toList=(List.replicate n zc.toList).flatten:=by
 intro n
 induction n with
 | zero=>simp
 | succ n ih =>
  rw [List.replicate_succ',List.flatten_append,← ih]
  simp only [List.flatten_cons,List.flatten_nil,List.append_nil]
  apply List.ext_getElem?
  intro k
  simp only [Array.toList_map,Array.toList_range,List.getElem?_map]
  by_cases h:k < n * zc.size
  ·rw [List.getElem?_append_left (by simpa using h)]
   rw [List.getElem?_range (by rw [Nat.add_mul]; omega)]
   simp [List.getElem?_range h]
  ·rw [List.getElem?_append_right (by simpa using h)]
   simp only [List.length_map,List.length_range]
   by_cases h2:k < (n + 1) * zc.size
   ·rw [List.getElem?_range h2]
    have h3:k - n * zc.size < zc.size:=by rw [Nat.add_mul] at h2; omega
    have h4:k % zc.size=k - n * zc.size:=by
     obtain ⟨r,hr⟩:∃ r,k=zc.size * n + r:=⟨k - n * zc.size,by rw [Nat.mul_comm zc.size]; omega⟩
     have hr2:k - n * zc.size=r:=by rw [hr,Nat.mul_comm zc.size]; omega
     rw [hr2,hr,Nat.mul_add_mod,Nat.mod_eq_of_lt (by omega)]
    simp [h4,h3]
   ·rw [List.getElem?_eq_none (by simp; omega),List.getElem?_eq_none (by simp; rw [Nat.add_mul] at h2; omega)]
    rfl
theorem RVs.rep {im gl w cs us} (h:RVs im gl w cs us []):∀ (n:Nat),RVs im gl w (List.replicate n cs).flatten (List.replicate n us).flatten []
 | 0=>.nil
 | n + 1=>by
  have:=h.append (RVs.rep h n)
  simpa [List.replicate_succ] using this
theorem cellsOf_rep (n:Nat) (z:D):cellsOf (List.replicate n z)=(List.replicate n z.cells).flatten:=by
 induction n with
 | zero=>rfl
 | succ n ih=>simp [cellsOf,List.replicate_succ] at ih ⊢; exact ih
def chkZe (P:Program) (e:TypeId) (sz:Nat) (z:D):Bool:=chkZ P e z.cells && szT P e == some sz && z.cells.length == sz && sz != 0
def chkBs (P:Program) (t:TypeId) (len sz n:Nat) (z:D):Bool:=match P.underlying t with
 | some (.slice e)=>chkZe P e sz z && len == n && decide (n * sz ≤ 16777216)
 | _=>false
def ps3 (sz:Nat) (ps:List (Nat × X)):List (Nat × Nat × X):=ps.map fun p=>(p.1 * sz,sz,p.2)
def chkPq:List (Nat × X) → List (Nat × Operand) → Bool
 | [],[] => true
 | p :: ps,q :: qs=>p.1 == q.1 && chkX p.2 q.2 && chkPq ps qs
 | _,_=>false
theorem chkPq_ps {sz:Nat}:∀ {ps:List (Nat × X)} {qs:List (Nat × Operand)},chkPq ps qs=true → chkPs (fun i=>some (i * sz,sz)) (ps3 sz ps) qs=true
 | [],[],_=>rfl
 | p :: ps,q :: qs,h=>by
  simp only [chkPq,Bool.and_eq_true,beq_iff_eq] at h
  simp only [ps3,List.map_cons,chkPs,Bool.and_eq_true,beq_iff_eq]
  exact ⟨⟨by rw [h.1.1],h.1.2⟩,chkPq_ps h.2⟩
 | [],_ :: _,h=>by simp [chkPq] at h
 | _ :: _,[],h=>by simp [chkPq] at h
theorem chkPq_len:∀ {ps:List (Nat × X)} {qs:List (Nat × Operand)},chkPq ps qs=true → ps.length=qs.length
 | [],[],_=>rfl
 | p :: ps,q :: qs,h=>by simp only [chkPq,Bool.and_eq_true] at h; simp [chkPq_len h.2]
 | [],_ :: _,h=>by simp [chkPq] at h
 | _ :: _,[],h=>by simp [chkPq] at h
theorem run_bs0 {P : Program} {t e : TypeId} {sz : Nat} (hu : P.underlying t = some (.slice e)) (hs : szT P e = some sz) (w : World) :
    (Instr.buildSlice t 0 #[]).run P w=.ok (.slice (some ⟨w.heap.size,0,none⟩) 0 0) (w.alloc (.cells #[] e)):=by
 simp only [Instr.buildSlice,Sem.run_bind,run_underlying hu,Result.andThen_ok,run_sizeOf hs,Nat.zero_mul]
 simp [Instr.fill,newRow]
 rw [Array.size_eq_zero_iff.1 (show (Array.map (fun (x:Nat)=>(default:Value)) (Array.range 0)).size=0 by simp)]
theorem o_bs {P B g F s a w Q o t sz n z ps qs len dst r s' ac OO meth} (h : Sm B g F s a w [] [] []) (hd : ∀ k, o.dst = some k → k < B.nt) (hop : o.op = .buildSlice t len qs)
    (hc:chkBs P t len sz n z=true) (hp:chkPq ps qs.toList=true) (he:evO OO meth (.bs sz n z ps) s dst=some (r,s',ac)):Done P B o a w Q s' r:=by
 simp only [evO] at he
 split at he
 ·rename_i ds s1 h1
  split at he
  ·rename_i hst
   simp only [Option.map_eq_some_iff] at he
   obtain ⟨xs,h3,h4⟩:=he
   cases h4
   unfold chkBs at hc
   split at hc
   ·rename_i e hu
    simp only [Bool.and_eq_true,chkZe,beq_iff_eq,bne_iff_ne,decide_eq_true_eq] at hc
    obtain ⟨⟨⟨⟨⟨c1,c2⟩,c3⟩,c4⟩,c5⟩,c6⟩:=hc
    subst c5
    obtain ⟨zv,hzv,hz1,hzr⟩:=chkZ_rv c1
    have hps:=chkPq_ps (sz:=sz) hp
    have hxs:chkXs (ps.map (·.2)) (qs.toList.map (·.2))=true:=by have:=chkPs_xs hps; simpa [ps3,Function.comp_def] using this
    obtain ⟨F1,Fy,k1,hlen⟩:=rxs_sim h hxs h1
    have k1':Sm B g F1 s' a w ds (qs.toList.map fun q=>a.eval q.2) Fy:=by simpa [Function.comp_def] using k1
    have hzs:zv.cells.size=sz:=by have:=(hzr g.im g.gl w).length; simp at this; omega
    have hrep:∀ x ∈ List.replicate len z,x.cells.length=sz:=by intro x hx; rw [List.eq_of_mem_replicate hx]; exact c3
    obtain ⟨f1,f2,f3⟩:=fille_cells hrep h3
    have hz0:RVs g.im g.gl w (cellsOf (List.replicate len z)) ((Array.range (len * zv.cells.size)).map (zv.cells[· % zv.cells.size]!)).toList [] := by
     rw [made_list,cellsOf_rep]; exact (hzr g.im g.gl w).rep len
    have hz01:∀ v ∈ ((Array.range (len * zv.cells.size)).map (zv.cells[· % zv.cells.size]!)).toList,v.oneCell'=true:=by
     intro v hv
     rw [made_list] at hv
     obtain ⟨l,hl,hvl⟩:=List.mem_flatten.1 hv
     rw [List.eq_of_mem_replicate hl] at hvl
     exact hz1 v hvl
    have hdl:ds.length=(ps3 sz ps).length:=by rw [hlen]; simp [ps3,chkPq_len hp]
    have hf1:fillc (cellsOf (List.replicate len z)) (((ps3 sz ps).zip ds).map fun (p,d)=>(p.1,p.2.1,d))=some (cellsOf xs):=by
     rw [← f1]; congr 1
     simp [ps3,List.zip_map_left,Function.comp_def]
    obtain ⟨arr,F',r1,r2,r3,r4,r5⟩:=fill_sim (a:=a) (F:=[]) hps hf1 hdl hst hz0 hz01 k1'.ex (by simpa using k1'.dj.ndx)
    have hxl:xs.length=len:=by simpa using f2
    have k2:=k1'.weaken [] [] [] .nil (by simp) List.nodup_nil
    have hasz:arr.size=len * sz:=by have:=r2.length; rw [cellsOf_length f3,hxl] at this; simp at this; omega
    have k3:Sm B g F1 s' a w (cellsOf xs) arr.toList F':=k1'.weaken _ _ F' r2 (by simpa using r4) r5
    have k4:=k3.newx sz xs arr.toList arr e len r2 r3 f3 (fun j v hj=>by simpa using hj) (by omega) (by omega)
    rw [hxl] at k4
    refine done_v hd ?_ k4
    have hszt:szT P e=some sz:=c2
    unfold szT at hszt
    cases ei:P.info? e with
    | none=>simp [ei] at hszt
    | some ie =>
     simp [ei] at hszt
     have hzz:ie.zero=some zv:=by simpa [zeroT,ei] using hzv
     by_cases hl0:len=0
     ·subst hl0
      have hq0:qs.toList=[] := by
       cases hq:qs.toList with
       | nil=>rfl
       | cons q qs' =>
        exfalso
        cases ps with
        | nil=>rw [hq] at hp; simp [chkPq] at hp
        | cons p ps' =>
         cases ds with
         | nil=>simp [ps3] at hdl
         | cons d ds'=>simp [fille] at h3
      have hq0':qs=#[] := by cases qs; simp at hq0; simp [hq0]
      have ha0:arr=#[] := Array.size_eq_zero_iff.1 (by omega)
      subst hq0' ha0
      simp only [execOp,hop,Sem.run_bind,List.map_toArray,List.map_nil,run_bs0 hu c2,Result.andThen_ok,Sem.run_pure]
     ·have:=run_buildSlice (P:=P) w t e len (qs.map fun (i,x)=>(i,a.eval x)) arr ie zv hu ei hzz (by rw [hszt]; omega) (by rw [hszt]; exact Nat.mul_ne_zero hl0 c4)
       (by rw [hszt,← hzs]; rw [hzs]; rw [hzs] at r1; simpa using r1)
      simp only [execOp,hop,Sem.run_bind,this,Result.andThen_ok,Sem.run_pure]
   ·cases hc
  ·cases he
 ·cases he
end Go.AM

namespace Go.AM
structure Chg (B:Ba) (g g':G) (w w':World) (L:List Nat):Prop where
 heap:∀ b,b ∉ L → w'.heap[b]? = w.heap[b]?
 size:w'.heap.size=w.heap.size
 im:∀ b j v,g.im b j=some v → g'.im b j=some v
 imo:∀ b,b ∉ L → ∀ j,g'.im b j=g.im b j
 imok:∀ b j v,g'.im b j=some v → w'.cell? ⟨b,j,none⟩=some v
 gl:g'.gl=g.gl
 gp:g'.gp=g.gp
 lc:g'.lc=g.lc
 os:w'.os=w.os
 tape:w'.tape=w.tape
 out:w'.output=w.output
theorem Chg.rv {B g g' w w' L} (h:Chg B g g' w w' L) {ds vs K} (hr:g.rv w ds vs K) (hd:∀ b ∈ K,b ∉ L):g'.rv w' ds vs K :=
 hr.frame h.im (fun r b e=>by rw [h.gl]; exact e) (fun b hb=>⟨h.imo b (hd b hb),h.heap b (hd b hb)⟩)
theorem Chg.own {B g g' w w' L} (h:Chg B g g' w w' L) {b cs K} (hr:Own g w b cs K) (hd:∀ b ∈ K,b ∉ L):Own g' w' b cs K:=by
 obtain ⟨c,t,f,F',k1,k2,k3,k4,rfl,k6⟩:=hr
 have e:=h.heap b (hd b (by simp))
 exact ⟨c,t,f,F',e.trans k1,fun j hj=>(World.frozen?_of_block (w:=w) (w':=w') (a:=⟨b,j,none⟩) e).trans (k2 j hj),k3,fun j=>(h.imo b (hd b (by simp)) j).trans (k4 j),rfl,h.rv k6 (fun c hc=>hd c (by simp [hc]))⟩
theorem plHdr.chg {B g g' w w' L} (h:Chg B g g' w w' L) {pl:Pl} {u:Value} (hp:plHdr g w pl u) (hd:∀ b,(match pl with | .ob k _=>g.lc k=some (.inl b) | .gb r _=>g.gp r=some b) → b ∉ L):plHdr g' w' pl u:=by
 cases pl with
 | ob k off =>
  simp only [plHdr,h.lc] at hp ⊢
  cases e:g.lc k with
  | none=>rw [e] at hp; exact hp
  | some x =>
   rw [e] at hp
   cases x with
   | inl b=>exact (World.cell?_of_block (w:=w) (w':=w') (a:=⟨b,off,none⟩) (h.heap b (hd b e))).trans hp
   | inr v=>exact hp
 | gb r off =>
  obtain ⟨b,e1,e2⟩:=hp
  exact ⟨b,by rw [h.gp]; exact e1,(World.cell?_of_block (w:=w) (w':=w') (a:=⟨b,off,none⟩) (h.heap b (hd b e1))).trans e2⟩
theorem Sm.blk_ob {B g F s a w ds vs Fx} (h:Sm B g F s a w ds vs Fx) {k b cs} (hk:look k s.ob=some cs) (hl:g.lc k=some (.inl b)):b ∈ F (.ob k):=by
 have:=h.ob k cs hk
 unfold obOK at this; rw [hl] at this
 obtain ⟨_,_,_,F',_,_,_,_,e,_⟩:=this
 rw [e]; simp
theorem Sm.blk_gb {B g F s a w ds vs Fx} (h:Sm B g F s a w ds vs Fx) {r b} (hl:g.gp r=some b):b ∈ F (.gb r):=by
 have hlt:=h.glb r _ (h.gpl r b hl)
 obtain ⟨_,_,_,F',_,_,_,_,e,_⟩:=(h.gb r _ (List.getElem?_eq_getElem hlt)).own hl
 rw [e]; simp
theorem mem_nd {L M:List Nat} (h:(L ++ M).Nodup) {b:Nat} (h1:b ∈ L) (h2:b ∈ M):False:=(List.nodup_append.1 h).2.2 b h1 b h2 rfl
theorem Sm.setob {B g g' F s a w w' ds vs Fx ds' vs' Fx' L'} (h : Sm B g F s a w ds vs Fx) (k : Nat) (cs' : List D) (p : Q → Bool) (hk : ∃ cs, look k s.ob = some cs)
    (hc:Chg B g g' w w' (F (.ob k) ++ Fx)) (ho:obOK g' w' k cs' L') (hx:g'.rv w' ds' vs' Fx') (hn:(L' ++ Fx').Nodup) (hs:∀ b ∈ L' ++ Fx',b ∈ F (.ob k) ++ Fx)
    (hq:∀ q v,p q=false → qOK g w s q v → Q.ofk k q=true → qOK g' w' { s with ob:=(k,cs') :: s.ob,fr:=forget p s.fr } q v) :
    Sm B g' (ups F (.ob k) L') { s with ob:=(k,cs') :: s.ob,fr:=forget p s.fr } a w' ds' vs' Fx':=by
 obtain ⟨cs,hk⟩:=hk
 have hdj:∀ x,x ≠ .ob k → ∀ b ∈ F x,b ∉ F (.ob k) ++ Fx:=by
  intro x hx b hb hb'
  rcases List.mem_append.1 hb' with hb' | hb'
  ·exact h.dj.dis x _ hx b hb hb'
  ·exact h.dj.dix x b hb hb'
 refine { h with sl:=?_,ob:=?_,gb:=?_,ex:=hx,lcd:=?_,dslot:=?_,dob:=?_,dgb:=?_,dj:=?_,lt:=?_,imok:=hc.imok,im0:=fun b j v e=>hc.im _ _ _ (h.im0 b j v e),gl0:=fun r b e=>by rw [hc.gl]; exact h.gl0 r b e,glb:=fun r b e=>h.glb r b (by rw [← hc.gl]; exact e),gpl:=fun r b e=>by rw [hc.gl]; exact h.gpl r b (by rw [← hc.gp]; exact e),keep:=?_,os:=hc.os.trans h.os,tape:=hc.tape.trans h.tape,out:=hc.out.trans h.out,hs:=by rw [hc.size]; exact h.hs }
 ·intro j r hj
  rw [look_forget] at hj
  cases e:look j s.fr with
  | none=>rw [e] at hj; cases hj
  | some r0 =>
   rw [e] at hj; simp only [Option.map_some] at hj; cases hj
   obtain ⟨v,hv,hr0⟩:=h.sl j r0 e
   refine ⟨v,hv,?_⟩
   rw [ups_ne _ _ (by simp)]
   refine hr0.forget _ (fun q hpq hqo=>?_) (fun d hd=>hc.rv hd (fun b hb=>hdj _ (by simp) b hb))
   by_cases hok:Q.ofk k q=true
   ·exact hq q v hpq hqo hok
   ·refine hqo.other (k:=k) (by simpa using hok) (fun i hi=>by rw [hc.lc]) (fun r b e=>by rw [hc.gl]; exact e) ?_ ?_
    ·intro pl u hne hp
     refine hp.chg hc (fun b hb=>?_)
     cases pl with
     | ob i off =>
      obtain ⟨ci,hi⟩:=h.lcd i _ hb
      exact hdj _ (by simp; rintro rfl; exact hne off rfl) b (h.blk_ob hi hb)
     | gb r off=>exact hdj _ (by simp) b (h.blk_gb hb)
    ·intro pl hne
     cases pl with
     | ob i off =>
      have hik:¬ k=i:=fun e=>hne off (by rw [e])
      simp [St.at,look_cons,hik]
     | gb r off=>rfl
 ·intro j cs0 hj
  simp only [look_cons] at hj
  split at hj
  ·rename_i e; subst e; cases hj
   rw [ups_same]; exact ho
  ·rename_i hne
   have:=h.ob j cs0 hj
   rw [ups_ne _ _ (by simp; omega)]
   unfold obOK at this ⊢
   rw [hc.lc]
   cases e:g.lc j with
   | none=>rw [e] at this; exact this
   | some x =>
    rw [e] at this
    cases x with
    | inl b=>exact hc.own this (fun b hb=>hdj _ (by simp; omega) b hb)
    | inr v=>obtain ⟨d,e1,e2⟩:=this; exact ⟨d,e1,hc.rv e2 (fun b hb=>hdj _ (by simp; omega) b hb)⟩
 ·intro r cs0 hj
  rw [ups_ne _ _ (by simp)]
  exact (h.gb r cs0 hj).framed (by rw [hc.gp]) (fun r b e=>by rw [hc.gl]; exact e) hc.im (fun b hb=>⟨hc.imo b (hdj _ (by simp) b hb),hc.heap b (hdj _ (by simp) b hb)⟩)
 ·intro j x hj
  simp only [look_cons]
  split
  ·exact ⟨_,rfl⟩
  ·rw [hc.lc] at hj; exact h.lcd j x hj
 ·intro j hj
  rw [look_forget] at hj
  rw [ups_ne _ _ (by simp)]
  exact h.dslot j (by cases e:look j s.fr <;> simp [e] at hj ⊢)
 ·intro j hj
  simp only [look_cons] at hj
  split at hj
  ·cases hj
  ·rename_i hne; rw [ups_ne _ _ (by simp; omega)]; exact h.dob j hj
 ·intro j hj; rw [ups_ne _ _ (by simp)]; exact h.dgb j hj
 ·have h1:=h.dj.out (.ob k)
  have h2:Dj (ups F (.ob k) []) (L' ++ Fx'):=h1.sub (fun b hb=>by have:=hs b hb; simp only [List.mem_append] at this ⊢; exact this.symm) hn
  have h3:=h2.into (.ob k)
  have h4:ups (ups F (.ob k) []) (.ob k) L'=ups F (.ob k) L':=by funext x; unfold ups; split <;> rfl
  rw [h4] at h3; exact h3
 ·intro b hb
  have hb':Tot F Fx b:=by
   rcases hb with hb | ⟨x,hb⟩
   ·rcases List.mem_append.1 (hs b (by simp [hb])) with hb | hb
    ·exact .inr ⟨_,hb⟩
    ·exact .inl hb
   ·unfold ups at hb; split at hb
    ·rcases List.mem_append.1 (hs b (by simp [hb])) with hb | hb
     ·exact .inr ⟨_,hb⟩
     ·exact .inl hb
    ·exact .inr ⟨x,hb⟩
  have:=h.lt b hb'
  rw [hc.size]; exact this
 ·intro b h1 h2
  have hb:b ∉ F (.ob k) ++ Fx:=by
   intro hm
   have:Tot F Fx b:=by
    rcases List.mem_append.1 hm with hm | hm
    ·exact .inr ⟨_,hm⟩
    ·exact .inl hm
   rcases (h.lt b this).2 with hh | hh
   ·exact h2 hh
   ·omega
  obtain ⟨k1,k2⟩:=h.keep b h1 h2
  exact ⟨(hc.heap b hb).trans k1,fun j=>(hc.imo b hb j).trans (k2 j)⟩
theorem Sm.setgb {B g g' F s a w w' ds vs Fx ds' vs' Fx' L'} (h : Sm B g F s a w ds vs Fx) (r : Nat) (cs' : List D) (lo' : Nat) (p : Q → Bool) (hr : r < s.sg.length)
    (hc:Chg B g g' w w' (F (.gb r) ++ Fx)) (ho:gbOK g' w' r cs' L') (hx:g'.rv w' ds' vs' Fx') (hn:(L' ++ Fx').Nodup) (hs:∀ b ∈ L' ++ Fx',b ∈ F (.gb r) ++ Fx) (hlo:lo' ≤ s.lo)
    (hrefs:r < lo' → ∀ m c1,s.sg[r]? = some c1 → D.nrs m c1=true → D.nrs m cs'=true)
    (hq:∀ q v,p q=false → qOK g w s q v → Q.gl q=true → qOK g' w' { s with sg:=s.sg.set r cs',fr:=forget p s.fr,lo:=lo' } q v) :
    Sm B g' (ups F (.gb r) L') { s with sg:=s.sg.set r cs',fr:=forget p s.fr,lo:=lo' } a w' ds' vs' Fx':=by
 have hdj:∀ x,x ≠ .gb r → ∀ b ∈ F x,b ∉ F (.gb r) ++ Fx:=by
  intro x hx b hb hb'
  rcases List.mem_append.1 hb' with hb' | hb'
  ·exact h.dj.dis x _ hx b hb hb'
  ·exact h.dj.dix x b hb hb'
 refine { h with sl:=?_,ob:=?_,gb:=?_,ex:=hx,lcd:=?_,dslot:=?_,dob:=?_,dgb:=?_,dj:=?_,lt:=?_,imok:=hc.imok,im0:=fun b j v e=>hc.im _ _ _ (h.im0 b j v e),gl0:=fun r b e=>by rw [hc.gl]; exact h.gl0 r b e,glb:=fun r b e=>by simpa using h.glb r b (by rw [← hc.gl]; exact e),gpl:=fun r b e=>by rw [hc.gl]; exact h.gpl r b (by rw [← hc.gp]; exact e),keep:=?_,os:=hc.os.trans h.os,tape:=hc.tape.trans h.tape,out:=hc.out.trans h.out,hs:=by rw [hc.size]; exact h.hs,sgl:=by simpa using h.sgl,refs:=?_ }
 ·intro j r0 hj
  rw [look_forget] at hj
  cases e:look j s.fr with
  | none=>rw [e] at hj; cases hj
  | some r1 =>
   rw [e] at hj; simp only [Option.map_some] at hj; cases hj
   obtain ⟨v,hv,hr0⟩:=h.sl j r1 e
   refine ⟨v,hv,?_⟩
   rw [ups_ne _ _ (by simp)]
   refine hr0.forget _ (fun q hpq hqo=>?_) (fun d hd=>hc.rv hd (fun b hb=>hdj _ (by simp) b hb))
   by_cases hok:Q.gl q=true
   ·exact hq q v hpq hqo hok
   ·cases q with
    | ptr k off=>obtain ⟨b,e1,e2⟩:=hqo; exact ⟨b,by rw [hc.lc]; exact e1,e2⟩
    | hdr k=>simp only [qOK,hc.lc]; exact hqo
    | hd pl =>
     cases pl with
     | ob i off =>
      refine plHdr.chg (pl:=.ob i off) hc hqo (fun b hb=>?_)
      obtain ⟨ci,hi⟩:=h.lcd i _ hb
      exact hdj _ (by simp) b (h.blk_ob hi hb)
     | gb r off=>simp [Q.gl] at hok
    | el pl ix fo =>
     cases pl with
     | ob i off =>
      obtain ⟨b,o,len,cap,sz,xs,e1,e2,e3,e4⟩:=hqo
      refine ⟨b,o,len,cap,sz,xs,e1.chg hc (fun b hb=>?_),e2,e3,e4⟩
      obtain ⟨ci,hi⟩:=h.lcd i _ hb
      exact hdj _ (by simp) b (h.blk_ob hi hb)
     | gb r off=>simp [Q.gl] at hok
 ·intro j cs0 hj
  have:=h.ob j cs0 hj
  rw [ups_ne _ _ (by simp)]
  unfold obOK at this ⊢
  rw [hc.lc]
  cases e:g.lc j with
  | none=>rw [e] at this; exact this
  | some x =>
   rw [e] at this
   cases x with
   | inl b=>exact hc.own this (fun b hb=>hdj _ (by simp) b hb)
   | inr v=>obtain ⟨d,e1,e2⟩:=this; exact ⟨d,e1,hc.rv e2 (fun b hb=>hdj _ (by simp) b hb)⟩
 ·intro r0 cs0 hj
  by_cases e:r0=r
  ·subst e
   simp only [List.getElem?_set_self hr] at hj
   cases hj
   rw [ups_same]; exact ho
  ·rw [List.getElem?_set_ne (by omega)] at hj
   rw [ups_ne _ _ (by simp; omega)]
   exact (h.gb r0 cs0 hj).framed (by rw [hc.gp]) (fun r b e=>by rw [hc.gl]; exact e) hc.im (fun b hb=>⟨hc.imo b (hdj _ (by simp; omega) b hb),hc.heap b (hdj _ (by simp; omega) b hb)⟩)
 ·intro j x hj; rw [hc.lc] at hj; exact h.lcd j x hj
 ·intro j hj
  rw [look_forget] at hj
  rw [ups_ne _ _ (by simp)]
  exact h.dslot j (by cases e:look j s.fr <;> simp [e] at hj ⊢)
 ·intro j hj; rw [ups_ne _ _ (by simp)]; exact h.dob j hj
 ·intro j hj
  have hj':s.sg.length ≤ j:=by simpa using hj
  rw [ups_ne _ _ (by simp; omega)]; exact h.dgb j (by simpa using hj')
 ·have h1:=h.dj.out (.gb r)
  have h2:Dj (ups F (.gb r) []) (L' ++ Fx'):=h1.sub (fun b hb=>by have:=hs b hb; simp only [List.mem_append] at this ⊢; exact this.symm) hn
  have h3:=h2.into (.gb r)
  have h4:ups (ups F (.gb r) []) (.gb r) L'=ups F (.gb r) L':=by funext x; unfold ups; split <;> rfl
  rw [h4] at h3; exact h3
 ·intro b hb
  have hb':Tot F Fx b:=by
   rcases hb with hb | ⟨x,hb⟩
   ·rcases List.mem_append.1 (hs b (by simp [hb])) with hb | hb
    ·exact .inr ⟨_,hb⟩
    ·exact .inl hb
   ·unfold ups at hb; split at hb
    ·rcases List.mem_append.1 (hs b (by simp [hb])) with hb | hb
     ·exact .inr ⟨_,hb⟩
     ·exact .inl hb
    ·exact .inr ⟨x,hb⟩
  have:=h.lt b hb'
  rw [hc.size]; exact this
 ·intro b h1 h2
  have hb:b ∉ F (.gb r) ++ Fx:=by
   intro hm
   have:Tot F Fx b:=by
    rcases List.mem_append.1 hm with hm | hm
    ·exact .inr ⟨_,hm⟩
    ·exact .inl hm
   rcases (h.lt b this).2 with hh | hh
   ·exact h2 hh
   ·omega
  obtain ⟨k1,k2⟩:=h.keep b h1 h2
  exact ⟨(hc.heap b hb).trans k1,fun j=>(hc.imo b hb j).trans (k2 j)⟩
 ·intro m r0 c0 c1 hl e0 e1 hm
  by_cases e:r0=r
  ·subst e
   simp only [List.getElem?_set_self hr] at e1
   cases e1
   have e2:=List.getElem?_eq_getElem hr
   exact hrefs hl m _ e2 (h.refs m r0 c0 _ (by dsimp only at hl; omega) e0 e2 hm)
  ·rw [List.getElem?_set_ne (by omega)] at e1
   exact h.refs m r0 c0 c1 (by dsimp only at hl; omega) e0 e1 hm
theorem Chg.refl {B g F s a w ds vs Fx} (h:Sm B g F s a w ds vs Fx) (L:List Nat):Chg B g g w w L :=
 ⟨fun _ _=>rfl,rfl,fun _ _ _ e=>e,fun _ _ _=>rfl,h.imok,rfl,rfl,rfl,rfl,rfl,rfl⟩
end Go.AM

namespace Go.AM
def chkLd (P:Program) (t:TypeId) (agg:Bool) (n:Nat) (m:M):Bool:=aggT P t == some agg && szT P t == some n && (agg || n == 1) && (m != .hd || !agg)
theorem run_load' {P : Program} {w : World} {t : TypeId} {agg : Bool} {n b off : Nat} {us : List Value} (ha : aggT P t = some agg) (hn : szT P t = some n) (h1 : agg = true ∨ n = 1) (hl : us.length = n)
    (hc:∀ (j:Nat) (v:Value),us[j]? = some v → w.cell? ⟨b,off + j,none⟩=some v) :
    (Instr.loadAt t (.pointer (some ⟨b,off,none⟩))).run P w=.ok (if agg then .agg us.toArray else us.getD 0 undef) w:=by
 have hld:=run_loadCells_list (P:=P) w ⟨b,off,none⟩ us (fun j v hj=>by rw [add_addr]; exact hc j v hj)
 rw [hl] at hld
 cases agg with
 | true=>simp [Instr.loadAt,Instr.sureAddr,loadVar,run_isAgg ha,run_sizeOf hn,hld]
 | false =>
  have hn1:n=1:=by simpa using h1
  subst hn1
  match us,hl with
  | [u],_ =>
   have:=hc 0 u rfl
   simp [Instr.loadAt,Instr.sureAddr,loadVar,run_isAgg ha,Nat.add_zero] at this ⊢
   simp [this]
theorem ofc_load {im gl w agg ds d us F} (h : RVs im gl w ds us F) (ho : ofc agg ds = some d) (h1 : ∀ v ∈ us, v.oneCell' = true) :
    RVs im gl w [d] [if agg then .agg us.toArray else us.getD 0 undef] F:=by
 rcases ofc_rv h ho h1 with ⟨rfl,hr⟩ | ⟨rfl,v,rfl,_,hr⟩
 ·simpa using hr
 ·simpa using hr
theorem part_cells {c : Array Value} {off n : Nat} {w : World} {b : Nat} {t : TypeId} {f : Nat × Nat} (hb : w.heap[b]? = some (.cells c t f)) (j : Nat) (v : Value) (h : ((c.toList.drop off).take n)[j]? = some v) :
    w.cell? ⟨b,off + j,none⟩=some v:=by
 rw [cell_of_row _ _ _ _ _ _ hb]
 rw [List.getElem?_take] at h
 split at h
 ·rw [List.getElem?_drop] at h; simpa using h
 ·cases h
theorem Sm.own_ob {B g F s a w ds vs Fx} (h:Sm B g F s a w ds vs Fx) {k b:Nat} {cs:List D} (hl:g.lc k=some (.inl b)) (hk:look k s.ob=some cs):Own g w b cs (F (.ob k)):=by
 have:=h.ob k cs hk
 unfold obOK at this; rw [hl] at this; exact this
theorem run_ld {P : Program} {o : Oper} {a : Act} {w : World} {x' : Operand} {t : TypeId} {b off n : Nat} {agg : Bool} {m : M} {us : List Value} (hop : o.op = .load t x') (hev : a.eval x' = .pointer (some ⟨b, off, none⟩))
    (hc:chkLd P t agg n m=true) (hl:us.length=n) (hu:∀ (j:Nat) (v:Value),us[j]? = some v → w.cell? ⟨b,off + j,none⟩=some v) :
    (execOp a.eval o).run P w=.ok (.value (if agg then .agg us.toArray else us.getD 0 undef)) w:=by
 simp only [chkLd,Bool.and_eq_true,beq_iff_eq,Bool.or_eq_true] at hc
 obtain ⟨⟨⟨c1,c2⟩,c3⟩,_⟩:=hc
 have hrun:=run_load' (P:=P) (w:=w) (b:=b) (off:=off) c1 c2 c3 hl hu
 simp only [execOp,hop,hev,Sem.run_bind,hrun,Result.andThen_ok,Sem.run_pure]
theorem wilds {im gl w}:∀ (us:List Value),RVs im gl w (List.replicate us.length .w) us []
 | [] => .nil
 | u :: us=>.w u (wilds us)
theorem perm_out (b:Nat) (A M C:List Nat):List.Perm (b :: (A ++ (M ++ C))) ((b :: (A ++ C)) ++ M):=by
 simp only [List.cons_append,List.append_assoc]
 exact (List.Perm.append_left A List.perm_append_comm).cons b
theorem Own.out {g : G} {w : World} {b : Nat} {cs ds : List D} {L : List Nat} {off n : Nat} (h : Own g w b cs L) (hL : L.Nodup) (hs : sub cs off n = some ds) :
    ∃ c t f L' A,w.heap[b]? = some (.cells c t f) ∧ (∀ v ∈ (c.toList.drop off).take n,v.oneCell'=true) ∧ ((c.toList.drop off).take n).length=n ∧ Own g w b (ovr cs off (List.replicate n .w)) L' ∧ g.rv w ds ((c.toList.drop off).take n) A ∧
     (L' ++ A).Nodup ∧ ∀ x ∈ L' ++ A,x ∈ L:=by
 obtain ⟨c,t,f,F',k1,k2,k3,k4,rfl,k6⟩:=h
 have hle:=(sub_len hs).2
 have hcl:=k6.length
 have hlen:((c.toList.drop off).take n).length=n:=by simp at hcl ⊢; omega
 have hds:ds=(cs.drop off).take n:=by unfold sub at hs; rw [if_pos hle] at hs; cases hs; rfl
 have e:cs=cs.take off ++ ((cs.drop off).take n ++ cs.drop (off + n)):=by rw [← List.drop_drop,List.take_append_drop,List.take_append_drop]
 have k6':=k6
 rw [e] at k6'
 obtain ⟨u1,t1,A1,C1,e1,e2,l1,h1,h2⟩:=RVs.append_inv _ k6'
 obtain ⟨u2,t2,A2,C2,e3,e4,l2,h3,h4⟩:=RVs.append_inv _ h2
 subst e3 e4 e2
 have q1:u1.length=off:=by rw [l1]; simp; omega
 have q2:u2.length=n:=by rw [l2]; simp; omega
 have hu2:(c.toList.drop off).take n=u2:=by rw [e1,← q1,List.drop_left,← q2,List.take_left]
 have hw:=wilds (im:=g.im) (gl:=g.gl) (w:=w) u2
 rw [q2] at hw
 refine ⟨c,t,f,b :: (A1 ++ C2),A2,k1,fun v hv=>k3 v (List.mem_of_mem_drop (List.mem_of_mem_take hv)),hlen,⟨c,t,f,A1 ++ C2,k1,k2,k3,k4,rfl,?_⟩,by rw [hds,hu2]; exact h3,?_,?_⟩
 ·have:=(h1.append hw).append h4
  rw [e1]
  unfold AM.ovr
  simp only [List.length_replicate]
  simpa [List.append_assoc] using this
 ·exact (perm_out b A1 A2 C2).nodup_iff.1 hL
 ·intro x hx
  exact (perm_out b A1 A2 C2).mem_iff.2 hx
theorem heap_setCells (b : Nat) : ∀ (vs : List Value) (off : Nat) (w : World) (c : Array Value) (t : TypeId) (f : Nat × Nat), w.heap[b]? = some (.cells c t f) → off + vs.length ≤ c.size →
    (w.setCells b off vs).heap[b]? = some (.cells (c.toList.take off ++ vs ++ c.toList.drop (off + vs.length)).toArray t f) ∧ (∀ x,x ≠ b → (w.setCells b off vs).heap[x]? = w.heap[x]?) ∧
     (w.setCells b off vs).heap.size=w.heap.size ∧ (w.setCells b off vs).os=w.os ∧ (w.setCells b off vs).tape=w.tape ∧ (w.setCells b off vs).output=w.output
 | [],off,w,c,t,f,h,hl=>by
  refine ⟨?_,fun _ _=>rfl,rfl,rfl,rfl,rfl⟩
  simp [World.setCells,h]
 | v :: vs,off,w,c,t,f,h,hl=>by
  have h1:(w.setCell ⟨b,off,none⟩ v).heap[b]? = some (.cells (c.setIfInBounds off v) t f):=by
   simp [World.setCell,Array.getElem?_modify,h]
  obtain ⟨k1,k2,k3,k4,k5,k6⟩:=heap_setCells b vs (off + 1) (w.setCell ⟨b,off,none⟩ v) _ t f h1 (by simp at hl ⊢; omega)
  refine ⟨?_,fun x hx=>(k2 x hx).trans (heap_setCell_other w ⟨b,off,none⟩ x v hx),k3.trans (by simp [World.setCell]),k4,k5,k6⟩
  rw [World.setCells,k1]
  congr 2
  apply Array.ext'
  simp only [List.length_cons,Array.toList_setIfInBounds]
  apply List.ext_getElem?
  intro j
  simp at hl
  by_cases a:j < off
  ·simp [List.getElem?_append,List.getElem?_take,a,List.getElem?_set]
   grind
  ·by_cases e:j=off
   ·subst e
    simp [List.getElem?_append,List.getElem?_take,List.getElem?_set]
    grind
   ·simp [List.getElem?_append,List.getElem?_take,List.getElem?_set,List.getElem?_drop]
    grind
end Go.AM

namespace Go.AM
theorem perm_into (b:Nat) (A M C H:List Nat):List.Perm ((b :: (A ++ (M ++ C))) ++ H) ((b :: (A ++ H ++ C)) ++ M):=by
 simp only [List.cons_append,List.append_assoc]
 refine List.Perm.cons b (List.Perm.append_left A ?_)
 have h1:List.Perm (M ++ (C ++ H)) ((C ++ H) ++ M):=List.perm_append_comm
 have h2:List.Perm ((C ++ H) ++ M) ((H ++ C) ++ M):=List.Perm.append_right M List.perm_append_comm
 simpa [List.append_assoc] using h1.trans h2
theorem Own.into {B : Ba} {g : G} {w : World} {b : Nat} {cs ds : List D} {ts : List Value} {L H : List Nat} {off : Nat} (h : Own g w b cs L) (hL : (L ++ H).Nodup) (hle : off + ds.length ≤ cs.length) (hr : g.rv w ds ts H) (h1 : ∀ v ∈ ts, v.oneCell' = true)
    (him:∀ c j v,g.im c j=some v → w.cell? ⟨c,j,none⟩=some v) :
    ∃ L' M,Own g (w.setCells b off ts) b (ovr cs off ds) L' ∧ Chg B g g w (w.setCells b off ts) L ∧ L'.Nodup ∧ (∀ x ∈ L',x ∈ L ++ H) ∧ (∀ j,j < ts.length → (w.cell? ⟨b,off + j,none⟩).isSome=true) ∧ (∀ j,j < ts.length → w.frozen? ⟨b,off + j,none⟩=false) ∧ List.Perm (L ++ H) (L' ++ M):=by
 obtain ⟨c,t,f,F',k1,k2,k3,k4,rfl,k6⟩:=h
 obtain ⟨A,M,C,rfl,k7⟩:=k6.ovr hr hle
 have hts:=hr.length
 have hcl:=k6.length
 simp at hcl
 obtain ⟨e1,e2,e3,e4,e5,e6⟩:=heap_setCells b ts off w c t f k1 (by omega)
 have hp:=perm_into b A M C H
 have hnd:=hp.nodup_iff.1 hL
 have hnd':(b :: (A ++ H ++ C)).Nodup:=(List.nodup_append.1 hnd).1
 have hfr:∀ {es us K},(∀ x ∈ K,x ≠ b) → g.rv w es us K → g.rv (w.setCells b off ts) es us K:=fun hK hr=>hr.frame (fun _ _ _ e=>e) (fun _ _ e=>e) (fun x hx=>⟨fun _=>rfl,e2 x (hK x hx)⟩)
 refine ⟨b :: (A ++ H ++ C),M,⟨_,t,f,A ++ H ++ C,e1,?_,?_,k4,rfl,?_⟩,⟨?_,e3,fun _ _ _ e=>e,fun _ _ _=>rfl,?_,rfl,rfl,rfl,e4,e5,e6⟩,hnd',fun x hx=>hp.mem_iff.2 (List.mem_append_left _ hx),?_,?_,hp⟩
 ·intro j hj
  have:j < c.size:=by simp at hj; omega
  rw [World.frozen?_setCells]; exact k2 j this
 ·intro v hv
  simp only [List.toList_toArray,List.mem_append] at hv
  rcases hv with (hv | hv) | hv
  ·exact k3 v (List.mem_of_mem_take hv)
  ·exact h1 v hv
  ·exact k3 v (List.mem_of_mem_drop hv)
 ·refine hfr ?_ (by rw [hts] at k7; simpa using k7)
  intro x hx e
  subst e
  exact (List.nodup_cons.1 hnd').1 hx
 ·intro x hx
  exact e2 x (by rintro rfl; exact hx (by simp))
 ·intro c' j v hv
  have hne:c' ≠ b:=by rintro rfl; rw [k4] at hv; cases hv
  exact (World.cell?_of_block (w:=w) (a:=⟨c',j,none⟩) (e2 c' hne)).trans (him _ _ _ hv)
 ·intro j hj
  rw [cell_of_row _ _ _ _ _ _ k1]
  simp; omega
 ·intro j hj
  exact k2 _ (by omega)
theorem run_storeAt {P : Program} {w : World} {t : TypeId} {b off n : Nat} {v : Value} (hn : szT P t = some n) (hl : v.cells.size = n) (hc : ∀ j, j < v.cells.toList.length → (w.cell? ⟨b, off + j, none⟩).isSome = true)
    (hf:∀ j,j < v.cells.toList.length → w.frozen? ⟨b,off + j,none⟩=false) (h1:∀ u ∈ v.cells.toList,u.oneCell'=true) :
    (Instr.storeAt t (.pointer (some ⟨b,off,none⟩)) v).run P w=.ok () (w.setCells b off v.cells.toList):=by
 have:=run_storeCells_cells (P:=P) b off v.cells.toList 0 w (by simpa using hc) (by simpa using hf) h1
 simp only [Nat.add_zero] at this
 simp [Instr.storeAt,Instr.sureAddr,storeVar,run_sizeOf hn,hl,this]
theorem done_s {P B o a w Q g F s'} (hd:∀ k,o.dst=some k → k < B.nt) {w':World} (hr:(execOp a.eval o).run P w=.ok .skip w') (h:Sm B g F s' a w' [] [] []):Done P B o a w Q s' (.v .u) :=
 fun _ hk=>wp_skip' hr (hk _ _ ((h.drop (.u .nil)).put o.dst hd))
theorem nrs_wild (m:Nat):∀ n,D.nrs m (List.replicate n .w)=true
 | 0=>rfl
 | n + 1=>by simp [List.replicate_succ,D.nrs,D.nr,nrs_wild m n]
theorem nrs_ovr {m:Nat} {cs ds:List D} {off:Nat} (h:D.nrs m cs=true) (hd:D.nrs m ds=true):D.nrs m (ovr cs off ds)=true:=by
 have h1:D.nrs m (cs.take off ++ cs.drop off)=true:=by rw [List.take_append_drop]; exact h
 have h2:D.nrs m (cs.take (off + ds.length) ++ cs.drop (off + ds.length))=true:=by rw [List.take_append_drop]; exact h
 rw [nrs_append,Bool.and_eq_true] at h1 h2
 unfold ovr
 rw [nrs_append,nrs_append,Bool.and_eq_true,Bool.and_eq_true]
 exact ⟨⟨h1.1,hd⟩,h2.2⟩
theorem nrs_out {m:Nat} {cs:List D} {off n:Nat} (h:D.nrs m cs=true) (_:off + n ≤ cs.length):D.nrs m (ovr cs off (List.replicate n .w))=true:=nrs_ovr h (nrs_wild m n)
theorem bor_ptr {g g':G} {w w':World} {s s':St} {q:AM.Q} {v:Value} {k:Nat} (hp:AM.Q.bor k q=false) (hk:AM.Q.ofk k q=true) (h:qOK g w s q v) (hl:∀ j x,g.lc j=some x → g'.lc j=some x):qOK g' w' s' q v:=by
 cases q with
 | ptr j off=>obtain ⟨b,e1,e2⟩:=h; exact ⟨b,hl _ _ e1,e2⟩
 | hdr j=>simp [AM.Q.bor,AM.Q.ofk] at hp hk; exact absurd hk hp
 | hd pl=>cases pl <;> simp [AM.Q.bor,AM.Q.ofk] at hp hk; exact absurd hk hp
 | el pl ix fo=>cases pl <;> simp [AM.Q.bor,AM.Q.ofk] at hp hk; exact absurd hk hp
theorem o_ld_row {P B g F s a w Q o t agg n m x x' dst r s' ac OO meth} (h : Sm B g F s a w [] [] []) (hd : ∀ k, o.dst = some k → k < B.nt) (hop : o.op = .load t x')
    (hx:chkX x x'=true) (hn0:n ≠ 0) (hc:chkLd P t agg n m=true) (he:evO OO meth (.ld agg n m x) s dst=some (r,s',ac))
    (hel:∀ F' s1 pl ix fo,Sm B g F' s1 a w [] [] [] → qOK g w s1 (.el pl ix fo) (a.eval x') → ldp s1 agg n m (.q (.el pl ix fo))=some (r,s',ac) → Done P B o a w Q s' r):Done P B o a w Q s' r:=by
 simp only [evO] at he
 split at he
 ·rename_i r1 s1 h1
  rcases rx_sim h hx h1 with ⟨d,F',Fy,rfl,k⟩ | ⟨q,F',rfl,k,hq⟩
  ·obtain ⟨A,hA⟩:=k.last
   have k0:=k.drop .nil
   cases d <;> simp only [ldp] at he <;> try (cases he; done)
   ·rename_i gi off
    obtain ⟨b,ev,_,hg⟩:=p_inv hA
    split at he
    ·cases he
    ·rename_i cs hcs
     have hex:cs ≠ [] → g.gp gi=some b ∧ Own g w b cs (F' (.gb gi)):=fun hne=>by
      obtain ⟨b',e1,ho⟩:=(k0.gb gi cs hcs).ex hne hg
      have e2:=k0.gpl _ _ e1
      rw [hg] at e2; cases e2
      exact ⟨e1,ho⟩
     have hlt:gi < s1.sg.length:=by rw [List.getElem?_eq_some_iff] at hcs; exact hcs.1
     split at he
     ·cases he
     ·rename_i ds hs
      obtain ⟨hgp,hown⟩:=hex (by rintro rfl; have:=(sub_len hs).2; simp at this; omega)
      split at he
      ·split at he
       ·rename_i es hcp
        simp only [Option.map_eq_some_iff] at he
        obtain ⟨d,h3,h4⟩:=he
        cases h4
        obtain ⟨c,tt,f,F2,k1,k2,k3,k4,_,k6⟩:=hown
        obtain ⟨A',_,_,hr⟩:=k6.part hs
        have hlen:((c.toList.drop off).take n).length=n:=by rw [← hr.length]; exact (sub_len hs).1
        have h1':∀ v ∈ (c.toList.drop off).take n,v.oneCell'=true:=fun v hv=>k3 v (List.mem_of_mem_drop (List.mem_of_mem_take hv))
        exact done_v hd (run_ld hop ev hc hlen (fun j v hj=>part_cells k1 j v hj)) (k0.drop (ofc_load (hr.cp es hcp) h3 h1'))
       ·cases he
      ·simp only [Option.map_eq_some_iff] at he
       obtain ⟨d,h3,h4⟩:=he
       cases h4
       obtain ⟨c,tt,f,L',A',k1,k2,k3,k4,k5,k6,k7⟩:=hown.out (k0.dj.nd _) hs
       have hch:=Chg.refl k0 (F' (.gb gi) ++ [])
       have k8:=k0.setgb (lo':=s1.lo) gi (ovr cs off (List.replicate n .w)) AM.Q.gl hlt hch (.inl ⟨b,hgp,k4⟩) k5 k6 (by simpa using k7) (Nat.le_refl _)
        (fun _ m0 c1 e1 hm=>by rw [hcs] at e1; cases e1; exact nrs_out hm (sub_len hs).2)
        (fun q v hp _ hq=>by simp [hp] at hq)
       exact done_v hd (run_ld hop ev hc k3 (fun j v hj=>part_cells k1 j v hj)) (k8.weaken _ _ A' (ofc_load k5 h3 k2) (by simp) ((List.nodup_append.1 k6).2.1))
      ·cases he
       obtain ⟨c,tt,f,F2,k1,k2,k3,k4,_,k6⟩:=hown
       obtain ⟨A',_,_,hr⟩:=k6.part hs
       have hlen:((c.toList.drop off).take n).length=n:=by rw [← hr.length]; exact (sub_len hs).1
       have hc':=hc
       simp only [chkLd,Bool.and_eq_true,beq_iff_eq,Bool.or_eq_true] at hc'
       have hagg:agg=false:=by simpa using hc'.2
       have hn1:n=1:=by have:=hc'.1.2; rw [hagg] at this; simpa using this
       subst hagg hn1
       have hcell:∃ v,((c.toList.drop off).take 1)=[v] := by
        match (c.toList.drop off).take 1,hlen with
        | [v],_=>exact ⟨v,rfl⟩
       obtain ⟨v,hv⟩:=hcell
       have hrun:=run_ld hop ev hc hlen (fun j v hj=>part_cells k1 j v hj)
       rw [hv] at hrun
       refine done_q hd (by simpa using hrun) k0 ⟨b,hgp,?_⟩
       have:=part_cells (n:=1) k1 0 v (by rw [hv]; rfl)
       simpa using this
   ·rename_i cs off
    obtain ⟨b,o1,us,ev,_,hu,h1c,hcc⟩:=q_inv hA
    split at he
    ·cases he
    ·rename_i ds hs
     simp only [Option.map_eq_some_iff] at he
     obtain ⟨d,h3,h4⟩:=he
     cases h4
     obtain ⟨A',_,hsub,hr⟩:=hcc.part hs
     have hA':A'=[] := by cases A' with | nil=>rfl | cons y ys=>exact absurd (hsub.subset (List.mem_cons_self)) (by simp)
     subst hA'
     have hlen:((us.drop off).take n).length=n:=by rw [← hr.length]; exact (sub_len hs).1
     refine done_v hd (run_ld hop ev hc hlen (fun j v hj=>?_)) (k0.drop (ofc_load hr h3 (fun v hv=>h1c v (List.mem_of_mem_drop (List.mem_of_mem_take hv)))))
     rw [List.getElem?_take] at hj
     split at hj
     ·rw [List.getElem?_drop] at hj
      have:=k0.imok _ _ _ (hu _ _ hj)
      rw [show o1 + off + j=o1 + (off + j) by omega]; exact this
     ·cases hj
  ·cases q with
   | ptr k0 off =>
    obtain ⟨b,hl,ev⟩:=hq
    simp only [ldp] at he
    split at he
    ·cases he
    ·rename_i cs hcs
     have hown:=k.own_ob hl hcs
     split at he
     ·cases he
     ·rename_i ds hs
      split at he
      ·split at he
       ·rename_i es hcp
        simp only [Option.map_eq_some_iff] at he
        obtain ⟨d,h3,h4⟩:=he
        cases h4
        obtain ⟨c,tt,f,F2,k1,k2,k3,k4,_,k6⟩:=hown
        obtain ⟨A',_,_,hr⟩:=k6.part hs
        have hlen:((c.toList.drop off).take n).length=n:=by rw [← hr.length]; exact (sub_len hs).1
        have h1':∀ v ∈ (c.toList.drop off).take n,v.oneCell'=true:=fun v hv=>k3 v (List.mem_of_mem_drop (List.mem_of_mem_take hv))
        exact done_v hd (run_ld hop ev hc hlen (fun j v hj=>part_cells k1 j v hj)) (k.drop (ofc_load (hr.cp es hcp) h3 h1'))
       ·cases he
      ·simp only [Option.map_eq_some_iff] at he
       obtain ⟨d,h3,h4⟩:=he
       cases h4
       obtain ⟨c,tt,f,L',A',k1,k2,k3,k4,k5,k6,k7⟩:=hown.out (k.dj.nd _) hs
       have hch:=Chg.refl k (F' (.ob k0) ++ [])
       have k8:=k.setob k0 (ovr cs off (List.replicate n .w)) (AM.Q.bor k0) ⟨cs,hcs⟩ hch (by unfold obOK; rw [hl]; exact k4) k5 k6 (by simpa using k7)
        (fun q v hp hqo hok=>bor_ptr hp hok hqo (fun _ _ e=>e))
       exact done_v hd (run_ld hop ev hc k3 (fun j v hj=>part_cells k1 j v hj)) (k8.weaken _ _ A' (ofc_load k5 h3 k2) (by simp) ((List.nodup_append.1 k6).2.1))
      ·cases he
       obtain ⟨c,tt,f,F2,k1,k2,k3,k4,_,k6⟩:=hown
       obtain ⟨A',_,_,hr⟩:=k6.part hs
       have hlen:((c.toList.drop off).take n).length=n:=by rw [← hr.length]; exact (sub_len hs).1
       have hc':=hc
       simp only [chkLd,Bool.and_eq_true,beq_iff_eq,Bool.or_eq_true] at hc'
       have hagg:agg=false:=by simpa using hc'.2
       have hn1:n=1:=by have:=hc'.1.2; rw [hagg] at this; simpa using this
       subst hagg hn1
       have hcell:∃ v,((c.toList.drop off).take 1)=[v] := by
        match (c.toList.drop off).take 1,hlen with
        | [v],_=>exact ⟨v,rfl⟩
       obtain ⟨v,hv⟩:=hcell
       have hrun:=run_ld hop ev hc hlen (fun j v hj=>part_cells k1 j v hj)
       rw [hv] at hrun
       refine done_q hd (by simpa using hrun) k ?_
       have:=part_cells (n:=1) k1 0 v (by rw [hv]; rfl)
       simp only [qOK,plHdr,hl]
       simpa using this
   | hdr j=>simp [ldp] at he
   | hd pl=>simp [ldp] at he
   | el pl ix fo=>exact hel F' s1 pl ix fo k hq he
 ·cases he
end Go.AM

namespace Go.AM
theorem forget_none:∀ (l:List (Nat × R)),forget (fun _=>false) l=l
 | [] => rfl
 | (k,.v d) :: r=>by simp [forget,forget_none r]
 | (k,.q x) :: r=>by simp [forget,forget_none r]
theorem rv_set {im gl w cs us F off d} (h : RVs im gl w cs us F) (hd : cs[off]? = some d) :
    ∃ A M C v,us[off]? = some v ∧ F=A ++ (M ++ C) ∧ RVs im gl w [d] [v] M ∧ ∀ im' gl' w' d' M',(∀ b j u,im b j=some u → im' b j=some u) → (∀ r b,gl r=some b → gl' r=some b) → (∀ b ∈ A ++ C,(∀ j,im' b j=im b j) ∧ w'.heap[b]? = w.heap[b]?) →
     RVs im' gl' w' [d'] [v] M' → RVs im' gl' w' (cs.set off d') us (A ++ (M' ++ C)):=by
 rw [List.getElem?_eq_some_iff] at hd
 obtain ⟨hlt,rfl⟩:=hd
 have e:cs=cs.take off ++ ([cs[off]] ++ cs.drop (off + 1)):=by simp
 rw [e] at h
 obtain ⟨u1,t1,A,C1,e1,e2,l1,h1,h2⟩:=RVs.append_inv _ h
 obtain ⟨u2,t2,M,C,e3,e4,l2,h3,h4⟩:=RVs.append_inv _ h2
 obtain ⟨v,rfl⟩:=h3.single
 have q1:u1.length=off:=by rw [l1]; simp; omega
 refine ⟨A,M,C,v,?_,by rw [e2,e4],h3,?_⟩
 ·rw [e1,e3,List.getElem?_append_right (by omega),q1]; simp
 ·intro im' gl' w' d' M' hm hg hf hr
  have k1:=h1.frame hm hg (fun b hb=>hf b (by simp [hb]))
  have k2:=h4.frame hm hg (fun b hb=>hf b (by simp [hb]))
  have k3:=k1.append (hr.append k2)
  rw [List.set_eq_take_append_cons_drop,if_pos hlt,e1,e3]
  simpa using k3
def Pl.site:Pl → Site
 | .ob k _=>.ob k
 | .gb r _=>.gb r
theorem St.setAt_ob {s:St} {k off cs d} (h:look k s.ob=some cs):s.setAt (.ob k off) d={ s with ob:=(k,cs.set off d) :: s.ob }:=by simp [St.setAt,h]
theorem St.setAt_gb {s:St} {r off cs d} (h:s.sg[r]? = some cs):s.setAt (.gb r off) d={ s with sg:=s.sg.set r (cs.set off d) }:=by simp [St.setAt,h]
theorem Sm.place {B g F s a w ds vs Fx pl sz xs v} (h : Sm B g F s a w ds vs Fx) (hat : s.at pl = some (.l .x sz xs)) (hv : plHdr g w pl v) :
    ∃ M,g.rv w [.l .x sz xs] [v] M ∧ (∀ b ∈ M,b ∈ F pl.site) ∧ M.Nodup ∧ ∀ (g':G) (w':World) (xs':List D) (M':List Nat) (ds':List D) (vs':List Value) (Fx':List Nat) (lo':Nat),
     Chg B g g' w w' (M ++ Fx) → xs'.length=xs.length → g'.rv w' [.l .x sz xs'] [v] M' → g'.rv w' ds' vs' Fx' → (∃ N,List.Perm (M ++ Fx) ((M' ++ Fx') ++ N)) → lo' ≤ s.lo →
     (∀ r off,pl=.gb r off → r < lo' → ∀ m,D.nrs m xs=true → D.nrs m xs'=true) →
     ∃ F',Sm B g' F' { s.setAt pl (.l .x sz xs') with lo:=lo' } a w' ds' vs' Fx':=by
 cases pl with
 | ob k off =>
  simp only [St.at] at hat
  split at hat
  ·rename_i cs hcs
   have hob:=h.ob k cs hcs
   have hnd:=h.dj.nd (.ob k)
   have hdx:=h.dj.dix (.ob k)
   unfold obOK at hob
   simp only [plHdr] at hv
   cases hlc:g.lc k with
   | none=>rw [hlc] at hob; exact hob.elim
   | some x =>
    rw [hlc] at hob hv
    cases x with
    | inl b =>
     obtain ⟨c,t,f,F1,k1,k2,k3,k4,k5,k6⟩:=hob
     obtain ⟨A,M,C,v',e1,rfl,hM,hset⟩:=rv_set k6 hat
     have hvv:v'=v:=by
      have h1:w.cell? ⟨b,off,none⟩=some v:=hv
      rw [cell_of_row _ _ _ _ _ _ k1] at h1
      have h2:c[off]? = some v':=by simpa using e1
      rw [h2] at h1; exact Option.some.inj h1
     subst hvv
     refine ⟨M,hM,fun b hb=>by simp [Pl.site,k5,hb],by rw [k5,List.nodup_cons,List.nodup_append,List.nodup_append] at hnd; exact hnd.2.2.1.1,?_⟩
     intro g' w' xs' M' ds' vs' Fx' lo' hc hlen hr hx hperm hlo _
     obtain ⟨N,hperm⟩:=hperm
     rw [St.setAt_ob hcs]
     have hall:(b :: (A ++ (M ++ C)) ++ Fx).Nodup:=by
      rw [← k5,List.nodup_append]; exact ⟨hnd,h.dj.ndx,fun x hx y hy e=>hdx x hx (e ▸ hy)⟩
     have hp1:List.Perm (b :: (A ++ (M ++ C)) ++ Fx) ((b :: (A ++ (M' ++ C))) ++ Fx' ++ N):=by
      simp only [List.cons_append,List.append_assoc]
      refine List.Perm.cons b (List.Perm.append_left A ?_)
      have p1:List.Perm (M ++ (C ++ Fx)) (C ++ (M ++ Fx)):=by
       rw [← List.append_assoc,← List.append_assoc]; exact List.Perm.append_right Fx List.perm_append_comm
      have p2:List.Perm (C ++ (M ++ Fx)) (C ++ (M' ++ Fx' ++ N)):=List.Perm.append_left C hperm
      have p3:List.Perm (C ++ (M' ++ Fx' ++ N)) (M' ++ (C ++ (Fx' ++ N))):=by
       simp only [List.append_assoc]
       rw [← List.append_assoc,← List.append_assoc]
       simpa [List.append_assoc] using List.Perm.append_right (Fx' ++ N) (List.perm_append_comm (l₁ := C) (l₂ := M'))
      exact (p1.trans p2).trans p3
     have hnot:∀ x,x ∈ b :: (A ++ C) → x ∉ M ++ Fx:=by
      intro x hx hx'
      have:List.Perm (b :: (A ++ (M ++ C)) ++ Fx) ((b :: (A ++ C)) ++ (M ++ Fx)):=by
       simp only [List.cons_append,List.append_assoc]
       refine List.Perm.cons b (List.Perm.append_left A ?_)
       rw [← List.append_assoc,← List.append_assoc]; exact List.Perm.append_right Fx List.perm_append_comm
      have hn:=this.nodup_iff.1 hall
      exact mem_nd hn hx hx'
     have hc':Chg B g g' w w' (F (.ob k) ++ Fx) :=
      {hc with
       heap:=fun x hx=>hc.heap x (fun hm=>hx (by rw [k5]; simp only [List.mem_append,List.mem_cons] at hm ⊢; rcases hm with hm | hm <;> simp [hm]))
       imo:=fun x hx j=>hc.imo x (fun hm=>hx (by rw [k5]; simp only [List.mem_append,List.mem_cons] at hm ⊢; rcases hm with hm | hm <;> simp [hm])) j }
     have hrow:=hset g'.im g'.gl w' _ M' hc.im (fun r b e=>by rw [hc.gl]; exact e) (fun x hx=>⟨hc.imo x (hnot x (by simp only [List.mem_append,List.mem_cons] at hx ⊢; exact .inr hx)),hc.heap x (hnot x (by simp only [List.mem_append,List.mem_cons] at hx ⊢; exact .inr hx))⟩) hr
     have hb:=hnot b (by simp)
     have hown:Own g' w' b (cs.set off (.l .x sz xs')) (b :: (A ++ (M' ++ C))) :=
      ⟨c,t,f,_,(hc.heap b hb).trans k1,fun j hj=>(World.frozen?_of_block (w:=w) (w':=w') (a:=⟨b,j,none⟩) (hc.heap b hb)).trans (k2 j hj),k3,fun j=>(hc.imo b hb j).trans (k4 j),rfl,hrow⟩
     have hres:=h.setob (g':=g') (w':=w') k (cs.set off (.l .x sz xs')) (fun _=>false) ⟨cs,hcs⟩ hc' (by unfold obOK; rw [hc.lc,hlc]; exact hown) hx
      ((List.nodup_append.1 (hp1.nodup_iff.1 hall)).1) (fun x hx=>by rw [k5]; exact hp1.mem_iff.2 (List.mem_append_left _ hx))
      (fun q u _ hq hok=>by
       refine hq.of_same (fun j x e=>by rw [hc.lc]; exact e) ?_ ?_
       ·intro pl u hp
        cases pl with
        | ob i o =>
         simp only [plHdr,hc.lc] at hp ⊢
         cases e:g.lc i with
         | none=>rw [e] at hp; exact hp
         | some x =>
          rw [e] at hp
          cases x with
          | inl b2 =>
           obtain ⟨ci,hi⟩:=h.lcd i _ e
           have hb2:=h.blk_ob hi e
           have hne:b2 ∉ M ++ Fx:=by
            by_cases hik:i=k
            ·subst hik; rw [hlc] at e; cases e; exact hb
            ·intro hm
             rcases List.mem_append.1 hm with hm | hm
             ·exact h.dj.dis (.ob i) (.ob k) (by simpa using hik) b2 hb2 (by rw [k5]; simp [hm])
             ·exact h.dj.dix _ b2 hb2 hm
           exact (World.cell?_of_block (w:=w) (w':=w') (a:=⟨b2,o,none⟩) (hc.heap b2 hne)).trans hp
          | inr v2=>exact hp
        | gb r o =>
         obtain ⟨b2,g1,g2⟩:=hp
         have hb2:=h.blk_gb g1
         have hne:b2 ∉ M ++ Fx:=by
          intro hm
          rcases List.mem_append.1 hm with hm | hm
          ·exact h.dj.dis (.gb r) (.ob k) (by simp) b2 hb2 (by rw [k5]; simp [hm])
          ·exact h.dj.dix _ b2 hb2 hm
         exact ⟨b2,by rw [hc.gp]; exact g1,(World.cell?_of_block (w:=w) (w':=w') (a:=⟨b2,o,none⟩) (hc.heap b2 hne)).trans g2⟩
       ·intro pl' sz' ys e
        cases pl' with
        | ob i o =>
         simp only [St.at,look_cons] at e ⊢
         split
         ·rename_i ee
          split at ee
          ·rename_i hik
           subst hik
           cases ee
           rw [hcs] at e
           replace e:cs[o]? = some (.l .x sz' ys):=e
           by_cases ho:o=off
           ·subst ho
            rw [hat] at e
            cases e
            exact ⟨xs',by rw [List.getElem?_set_self (by rw [List.getElem?_eq_some_iff] at hat; exact hat.1)],hlen⟩
           ·exact ⟨ys,by rw [List.getElem?_set_ne (by omega)]; exact e,rfl⟩
          ·rw [ee] at e; exact ⟨ys,e,rfl⟩
         ·rename_i ee
          split at ee
          ·cases ee
          ·rw [ee] at e; cases e
        | gb r o=>exact ⟨ys,e,rfl⟩)
     rw [forget_none] at hres
     exact ⟨_,{ hres with refs:=fun m r c0 c1 hl=>hres.refs m r c0 c1 (Nat.lt_of_lt_of_le hl hlo) }⟩
    | inr u =>
     obtain ⟨d,rfl,hr0⟩:=hob
     obtain ⟨rfl,rfl⟩:=hv
     simp at hat; subst hat
     refine ⟨F (.ob k),hr0,fun b hb=>hb,hnd,?_⟩
     intro g' w' xs' M' ds' vs' Fx' lo' hc hlen hr hx hperm hlo _
     obtain ⟨N,hperm⟩:=hperm
     rw [St.setAt_ob hcs]
     have hall:(F (.ob k) ++ Fx).Nodup:=by rw [List.nodup_append]; exact ⟨hnd,h.dj.ndx,fun x hx y hy e=>hdx x hx (e ▸ hy)⟩
     have hres:=h.setob (g':=g') (w':=w') k [.l .x sz xs'] (fun _=>false) ⟨_,hcs⟩ hc (by unfold obOK; rw [hc.lc,hlc]; exact ⟨_,rfl,hr⟩) hx
      ((List.nodup_append.1 (hperm.nodup_iff.1 hall)).1) (fun x hx=>hperm.mem_iff.2 (List.mem_append_left _ hx))
      (fun q u _ hq hok=>by
       refine hq.of_same (fun j x e=>by rw [hc.lc]; exact e) ?_ ?_
       ·intro pl u hp
        cases pl with
        | ob i o =>
         simp only [plHdr,hc.lc] at hp ⊢
         cases e:g.lc i with
         | none=>rw [e] at hp; exact hp
         | some x =>
          rw [e] at hp
          cases x with
          | inl b2 =>
           obtain ⟨ci,hi⟩:=h.lcd i _ e
           have hb2:=h.blk_ob hi e
           have hne:b2 ∉ F (.ob k) ++ Fx:=by
            have hik:i ≠ k:=by rintro rfl; rw [hlc] at e; cases e
            intro hm
            rcases List.mem_append.1 hm with hm | hm
            ·exact h.dj.dis (.ob i) (.ob k) (by simpa using hik) b2 hb2 hm
            ·exact h.dj.dix _ b2 hb2 hm
           exact (World.cell?_of_block (w:=w) (w':=w') (a:=⟨b2,o,none⟩) (hc.heap b2 hne)).trans hp
          | inr v2=>exact hp
        | gb r o =>
         obtain ⟨b2,g1,g2⟩:=hp
         have hb2:=h.blk_gb g1
         have hne:b2 ∉ F (.ob k) ++ Fx:=by
          intro hm
          rcases List.mem_append.1 hm with hm | hm
          ·exact h.dj.dis (.gb r) (.ob k) (by simp) b2 hb2 hm
          ·exact h.dj.dix _ b2 hb2 hm
         exact ⟨b2,by rw [hc.gp]; exact g1,(World.cell?_of_block (w:=w) (w':=w') (a:=⟨b2,o,none⟩) (hc.heap b2 hne)).trans g2⟩
       ·intro pl' sz' ys e
        cases pl' with
        | ob i o =>
         simp only [St.at,look_cons] at e ⊢
         split
         ·rename_i ee
          split at ee
          ·rename_i hik
           subst hik
           cases ee
           rw [hcs] at e
           cases o with
           | zero=>simp at e; obtain ⟨rfl,rfl⟩:=e; exact ⟨xs',by simp,hlen⟩
           | succ o=>simp at e
          ·rw [ee] at e; exact ⟨ys,e,rfl⟩
         ·rename_i ee
          split at ee
          ·cases ee
          ·rw [ee] at e; cases e
        | gb r o=>exact ⟨ys,e,rfl⟩)
     rw [forget_none] at hres
     exact ⟨_,{ hres with refs:=fun m r c0 c1 hl=>hres.refs m r c0 c1 (Nat.lt_of_lt_of_le hl hlo) }⟩
  ·cases hat
 | gb r off =>
  simp only [St.at] at hat
  split at hat
  ·rename_i cs hcs
   obtain ⟨b,hgl,hv0⟩:=hv
   obtain ⟨c,t,f,F1,k1,k2,k3,k4,k5,k6⟩:=(h.gb r cs hcs).own hgl
   have hv:∃ b,g.gp r=some b ∧ w.cell? ⟨b,off,none⟩=some v:=⟨b,hgl,hv0⟩
   have hnd:=h.dj.nd (.gb r)
   have hdx:=h.dj.dix (.gb r)
   have hlt:r < s.sg.length:=by rw [List.getElem?_eq_some_iff] at hcs; exact hcs.1
   obtain ⟨b',hgl',hv⟩:=hv
   rw [hgl] at hgl'; cases hgl'
   obtain ⟨A,M,C,v',e1,rfl,hM,hset⟩:=rv_set k6 hat
   have hvv:v'=v:=by
    have h1:=hv
    rw [cell_of_row _ _ _ _ _ _ k1] at h1
    have h2:c[off]? = some v':=by simpa using e1
    rw [h2] at h1; exact Option.some.inj h1
   subst hvv
   refine ⟨M,hM,fun b hb=>by simp [Pl.site,k5,hb],by rw [k5,List.nodup_cons,List.nodup_append,List.nodup_append] at hnd; exact hnd.2.2.1.1,?_⟩
   intro g' w' xs' M' ds' vs' Fx' lo' hc hlen hr hx hperm hlo hrefs
   obtain ⟨N,hperm⟩:=hperm
   rw [St.setAt_gb hcs]
   have hall:(b :: (A ++ (M ++ C)) ++ Fx).Nodup:=by
    rw [← k5,List.nodup_append]; exact ⟨hnd,h.dj.ndx,fun x hx y hy e=>hdx x hx (e ▸ hy)⟩
   have hp1:List.Perm (b :: (A ++ (M ++ C)) ++ Fx) ((b :: (A ++ (M' ++ C))) ++ Fx' ++ N):=by
    simp only [List.cons_append,List.append_assoc]
    refine List.Perm.cons b (List.Perm.append_left A ?_)
    have p1:List.Perm (M ++ (C ++ Fx)) (C ++ (M ++ Fx)):=by
     rw [← List.append_assoc,← List.append_assoc]; exact List.Perm.append_right Fx List.perm_append_comm
    have p2:List.Perm (C ++ (M ++ Fx)) (C ++ (M' ++ Fx' ++ N)):=List.Perm.append_left C hperm
    have p3:List.Perm (C ++ (M' ++ Fx' ++ N)) (M' ++ (C ++ (Fx' ++ N))):=by
     simp only [List.append_assoc]
     rw [← List.append_assoc,← List.append_assoc]
     simpa [List.append_assoc] using List.Perm.append_right (Fx' ++ N) (List.perm_append_comm (l₁ := C) (l₂ := M'))
    exact (p1.trans p2).trans p3
   have hnot:∀ x,x ∈ b :: (A ++ C) → x ∉ M ++ Fx:=by
    intro x hx hx'
    have:List.Perm (b :: (A ++ (M ++ C)) ++ Fx) ((b :: (A ++ C)) ++ (M ++ Fx)):=by
     simp only [List.cons_append,List.append_assoc]
     refine List.Perm.cons b (List.Perm.append_left A ?_)
     rw [← List.append_assoc,← List.append_assoc]; exact List.Perm.append_right Fx List.perm_append_comm
    have hn:=this.nodup_iff.1 hall
    exact mem_nd hn hx hx'
   have hc':Chg B g g' w w' (F (.gb r) ++ Fx) :=
    {hc with
     heap:=fun x hx=>hc.heap x (fun hm=>hx (by rw [k5]; simp only [List.mem_append,List.mem_cons] at hm ⊢; rcases hm with hm | hm <;> simp [hm]))
     imo:=fun x hx j=>hc.imo x (fun hm=>hx (by rw [k5]; simp only [List.mem_append,List.mem_cons] at hm ⊢; rcases hm with hm | hm <;> simp [hm])) j }
   have hrow:=hset g'.im g'.gl w' _ M' hc.im (fun r b e=>by rw [hc.gl]; exact e) (fun x hx=>⟨hc.imo x (hnot x (by simp only [List.mem_append,List.mem_cons] at hx ⊢; exact .inr hx)),hc.heap x (hnot x (by simp only [List.mem_append,List.mem_cons] at hx ⊢; exact .inr hx))⟩) hr
   have hb:=hnot b (by simp)
   have hown:Own g' w' b (cs.set off (.l .x sz xs')) (b :: (A ++ (M' ++ C))) :=
    ⟨c,t,f,_,(hc.heap b hb).trans k1,fun j hj=>(World.frozen?_of_block (w:=w) (w':=w') (a:=⟨b,j,none⟩) (hc.heap b hb)).trans (k2 j hj),k3,fun j=>(hc.imo b hb j).trans (k4 j),rfl,hrow⟩
   have hres:=h.setgb (g':=g') (w':=w') r (cs.set off (.l .x sz xs')) lo' (fun _=>false) hlt hc' (.inl ⟨b,by rw [hc.gp]; exact hgl,hown⟩) hx
    ((List.nodup_append.1 (hp1.nodup_iff.1 hall)).1) (fun x hx=>by rw [k5]; exact hp1.mem_iff.2 (List.mem_append_left _ hx)) hlo
    (fun hl m c1 e1 hm=>by
     rw [hcs] at e1; cases e1
     have hlt':off < cs.length:=by rw [List.getElem?_eq_some_iff] at hat; exact hat.1
     have hm1:D.nrs m (cs.take off ++ ([cs[off]] ++ cs.drop (off + 1)))=true:=by simpa using hm
     rw [nrs_append,nrs_append,Bool.and_eq_true,Bool.and_eq_true] at hm1
     rw [List.set_eq_take_append_cons_drop,if_pos hlt']
     rw [show (D.l K.x sz xs') :: cs.drop (off + 1)=[D.l K.x sz xs'] ++ cs.drop (off + 1) from rfl,nrs_append,nrs_append,Bool.and_eq_true,Bool.and_eq_true]
     refine ⟨hm1.1,?_,hm1.2.2⟩
     have hd:cs[off] = .l .x sz xs:=by rw [List.getElem?_eq_some_iff] at hat; exact hat.2
     have h0:=hm1.2.1
     rw [hd] at h0
     simp only [D.nrs,D.nr,Bool.and_true] at h0 ⊢
     exact hrefs r off rfl hl m h0)
    (fun q u _ hq hok=>by
     refine hq.of_same (fun j x e=>by rw [hc.lc]; exact e) ?_ ?_
     ·intro pl u hp
      cases pl with
      | ob i o =>
       simp only [plHdr,hc.lc] at hp ⊢
       cases e:g.lc i with
       | none=>rw [e] at hp; exact hp
       | some x =>
        rw [e] at hp
        cases x with
        | inl b2 =>
         obtain ⟨ci,hi⟩:=h.lcd i _ e
         have hb2:=h.blk_ob hi e
         have hne:b2 ∉ M ++ Fx:=by
          intro hm
          rcases List.mem_append.1 hm with hm | hm
          ·exact h.dj.dis (.ob i) (.gb r) (by simp) b2 hb2 (by rw [k5]; simp [hm])
          ·exact h.dj.dix _ b2 hb2 hm
         exact (World.cell?_of_block (w:=w) (w':=w') (a:=⟨b2,o,none⟩) (hc.heap b2 hne)).trans hp
        | inr v2=>exact hp
      | gb r2 o =>
       obtain ⟨b2,g1,g2⟩:=hp
       have hb2:=h.blk_gb g1
       have hne:b2 ∉ M ++ Fx:=by
        by_cases hrr:r2=r
        ·subst hrr; rw [hgl] at g1; cases g1; exact hb
        ·intro hm
         rcases List.mem_append.1 hm with hm | hm
         ·exact h.dj.dis (.gb r2) (.gb r) (by simpa using hrr) b2 hb2 (by rw [k5]; simp [hm])
         ·exact h.dj.dix _ b2 hb2 hm
       exact ⟨b2,by rw [hc.gp]; exact g1,(World.cell?_of_block (w:=w) (w':=w') (a:=⟨b2,o,none⟩) (hc.heap b2 hne)).trans g2⟩
     ·intro pl' sz' ys e
      cases pl' with
      | ob i o=>exact ⟨ys,e,rfl⟩
      | gb r2 o =>
       simp only [St.at] at e ⊢
       by_cases hrr:r2=r
       ·subst hrr
        rw [List.getElem?_set_self hlt]
        rw [hcs] at e
        replace e:cs[o]? = some (.l .x sz' ys):=e
        dsimp only
        by_cases ho:o=off
        ·subst ho
         rw [hat] at e
         cases e
         exact ⟨xs',by rw [List.getElem?_set_self (by rw [List.getElem?_eq_some_iff] at hat; exact hat.1)],hlen⟩
        ·exact ⟨ys,by rw [List.getElem?_set_ne (by omega)]; exact e,rfl⟩
       ·rw [List.getElem?_set_ne (by omega)]; exact ⟨ys,e,rfl⟩)
   rw [forget_none] at hres
   exact ⟨_,hres⟩
  ·cases hat
end Go.AM

namespace Go.AM
theorem x_inv {im gl w sz xs v F} (h : RVs im gl w [.l .x sz xs] [v] F) (hne : xs ≠ []) :
    ∃ b o cap us G,v=.slice (some ⟨b,o,none⟩) xs.length cap ∧ F=b :: G ∧ xs.length ≤ cap ∧ (∀ x ∈ xs,x.cells.length=sz) ∧ (∀ (j:Nat) (u:Value),us[j]? = some u → w.cell? ⟨b,o + j,none⟩=some u) ∧ (∀ v ∈ us,v.oneCell'=true) ∧
     Room w b (o + cap * sz) ∧ (∀ j,im b j=none) ∧ RVs im gl w (cellsOf xs) us G:=by
 cases h with
 | lnil=>exact absurd rfl hne
 | lz k hk=>rcases hk with hk | hk <;> cases hk
 | lez k hk=>rcases hk with hk | hk <;> cases hk
 | lx sz xs b o cap us hcap hs hu h1 hr hi hc h=>cases h; exact ⟨b,o,cap,us,_,rfl,by simp,hcap,hs,hu,h1,hr,hi,hc⟩
theorem one_cells {im gl w ds ts F} (h:RVs im gl w ds ts F):(∀ v ∈ ts,v.oneCell'=true) → ∀ c ∈ ds,c.cells=[c] := by
 induction h with
 | nil=>intro _ c hc; cases hc
 | a cs us h1 hc _ _ ih=>intro h; simp [Value.oneCell'] at h
 | t cs us hc _ _ ih=>intro h; simp [Value.oneCell'] at h
 | w v _ ih=>intro h c hc; rcases List.mem_cons.1 hc with rfl | hc; rfl; exact ih (fun v hv=>h v (by simp [hv])) c hc
 | u _ ih=>intro h c hc; rcases List.mem_cons.1 hc with rfl | hc; rfl; exact ih (fun v hv=>h v (by simp [hv])) c hc
 | b x _ ih=>intro h c hc; rcases List.mem_cons.1 hc with rfl | hc; rfl; exact ih (fun v hv=>h v (by simp [hv])) c hc
 | i k n _ ih=>intro h c hc; rcases List.mem_cons.1 hc with rfl | hc; rfl; exact ih (fun v hv=>h v (by simp [hv])) c hc
 | f k n _ ih=>intro h c hc; rcases List.mem_cons.1 hc with rfl | hc; rfl; exact ih (fun v hv=>h v (by simp [hv])) c hc
 | s x _ ih=>intro h c hc; rcases List.mem_cons.1 hc with rfl | hc; rfl; exact ih (fun v hv=>h v (by simp [hv])) c hc
 | nilp _ ih=>intro h c hc; rcases List.mem_cons.1 hc with rfl | hc; rfl; exact ih (fun v hv=>h v (by simp [hv])) c hc
 | p r off b hb _ ih=>intro h c hc; rcases List.mem_cons.1 hc with rfl | hc; rfl; exact ih (fun v hv=>h v (by simp [hv])) c hc
 | q cs off b o us hu h1 hc _ _ ih=>intro h c hc; rcases List.mem_cons.1 hc with rfl | hc; rfl; exact ih (fun v hv=>h v (by simp [hv])) c hc
 | lez k hk sz x cap hn _ ih=>intro h c hc; rcases List.mem_cons.1 hc with rfl | hc; rfl; exact ih (fun v hv=>h v (by simp [hv])) c hc
 | lnil k sz _ ih=>intro h c hc; rcases List.mem_cons.1 hc with rfl | hc; rfl; exact ih (fun v hv=>h v (by simp [hv])) c hc
 | lz k hk sz xs b o cap us hcap hn hs hu h1 hc _ _ ih=>intro h c hc; rcases List.mem_cons.1 hc with rfl | hc; rfl; exact ih (fun v hv=>h v (by simp [hv])) c hc
 | lo sz xs b o cap us hcap hs hu h1 hr hi hc _ _ ih=>intro h c hc; rcases List.mem_cons.1 hc with rfl | hc; rfl; exact ih (fun v hv=>h v (by simp [hv])) c hc
 | lx sz xs b o cap us hcap hs hu h1 hr hi hc _ _ ih=>intro h c hc; rcases List.mem_cons.1 hc with rfl | hc; rfl; exact ih (fun v hv=>h v (by simp [hv])) c hc
 | bm nm d v hc _ _ ih=>intro h c hc; rcases List.mem_cons.1 hc with rfl | hc; rfl; exact ih (fun v hv=>h v (by simp [hv])) c hc
 | ic ty d v hc _ _ ih=>intro h c hc; rcases List.mem_cons.1 hc with rfl | hc; rfl; exact ih (fun v hv=>h v (by simp [hv])) c hc
 | nili _ ih=>intro h c hc; rcases List.mem_cons.1 hc with rfl | hc; rfl; exact ih (fun v hv=>h v (by simp [hv])) c hc
 | fn g cs us hg hc _ _ ih=>intro h c hc; rcases List.mem_cons.1 hc with rfl | hc; rfl; exact ih (fun v hv=>h v (by simp [hv])) c hc
 | nilf _ ih=>intro h c hc; rcases List.mem_cons.1 hc with rfl | hc; rfl; exact ih (fun v hv=>h v (by simp [hv])) c hc
 | mp r _ ih=>intro h c hc; rcases List.mem_cons.1 hc with rfl | hc; rfl; exact ih (fun v hv=>h v (by simp [hv])) c hc
 | mo r b hb _ ih=>intro h c hc; rcases List.mem_cons.1 hc with rfl | hc; rfl; exact ih (fun v hv=>h v (by simp [hv])) c hc
theorem cells_split {sz : Nat} {xs : List D} {ix : Nat} {d : D} (hs : ∀ x ∈ xs, x.cells.length = sz) (hd : xs[ix]? = some d) :
    cellsOf xs=cellsOf (xs.take ix) ++ (d.cells ++ cellsOf (xs.drop (ix + 1))) ∧ (cellsOf (xs.take ix)).length=ix * sz ∧ d.cells.length=sz:=by
 rw [List.getElem?_eq_some_iff] at hd
 obtain ⟨hlt,rfl⟩:=hd
 have e:xs=xs.take ix ++ ([xs[ix]] ++ xs.drop (ix + 1)):=by simp
 refine ⟨?_,?_,hs _ (List.getElem_mem hlt)⟩
 ·conv=>lhs; rw [e]
  rw [cellsOf_append,cellsOf_append]
  simp [cellsOf]
 ·rw [cellsOf_length (fun x hx=>hs x (List.mem_of_mem_take hx))]
  rw [List.length_take,Nat.min_eq_left (by omega)]
theorem sub_elem {sz:Nat} {xs:List D} {ix fo n:Nat} {d:D} {ds:List D} (hs:∀ x ∈ xs,x.cells.length=sz) (hd:xs[ix]? = some d) (h:sub d.cells fo n=some ds):sub (cellsOf xs) (ix * sz + fo) n=some ds:=by
 obtain ⟨e,l1,l2⟩:=cells_split hs hd
 obtain ⟨h1,h2⟩:=sub_len h
 unfold sub at h ⊢
 rw [if_pos h2] at h
 cases h
 rw [if_pos (by rw [e]; simp; omega)]
 congr 1
 rw [e,← l1,← List.drop_drop,List.drop_left,List.drop_append]
 rw [List.take_append_of_le_length (by simp; omega)]
theorem ovr_mid {p m q v:List D} {fo:Nat} (h:fo + v.length ≤ m.length):ovr (p ++ (m ++ q)) (p.length + fo) v=p ++ (ovr m fo v ++ q):=by
 unfold ovr
 rw [List.take_append,List.take_of_length_le (by omega),Nat.add_sub_cancel_left,List.take_append_of_le_length (by omega),Nat.add_assoc,← List.drop_drop,List.drop_left,List.drop_append_of_le_length h]
 simp [List.append_assoc]
theorem ovr_all {p m q v:List D} (h:v.length=m.length):ovr (p ++ (m ++ q)) p.length v=p ++ (v ++ q):=by
 have:=ovr_mid (p:=p) (m:=m) (q:=q) (v:=v) (fo:=0) (by omega)
 rw [Nat.add_zero] at this
 rw [this]
 unfold ovr
 simp [h]
theorem rv_out {im gl w cs us F off n ds} (k6 : RVs im gl w cs us F) (hs : sub cs off n = some ds) :
    ∃ A M C,F=A ++ (M ++ C) ∧ RVs im gl w ds ((us.drop off).take n) M ∧ RVs im gl w (ovr cs off (List.replicate n .w)) us (A ++ C):=by
 have hle:=(sub_len hs).2
 have hds:ds=(cs.drop off).take n:=by unfold sub at hs; rw [if_pos hle] at hs; cases hs; rfl
 have e:cs=cs.take off ++ ((cs.drop off).take n ++ cs.drop (off + n)):=by rw [← List.drop_drop,List.take_append_drop,List.take_append_drop]
 have k6':=k6
 rw [e] at k6'
 obtain ⟨u1,t1,A1,C1,e1,e2,l1,h1,h2⟩:=RVs.append_inv _ k6'
 obtain ⟨u2,t2,A2,C2,e3,e4,l2,h3,h4⟩:=RVs.append_inv _ h2
 subst e3 e4 e2
 have q1:u1.length=off:=by rw [l1]; simp; omega
 have q2:u2.length=n:=by rw [l2]; simp; omega
 have hu2:(us.drop off).take n=u2:=by rw [e1,← q1,List.drop_left,← q2,List.take_left]
 have hw:=wilds (im:=im) (gl:=gl) (w:=w) u2
 rw [q2] at hw
 refine ⟨A1,A2,C2,rfl,by rw [hds,hu2]; exact h3,?_⟩
 have:=(h1.append hw).append h4
 rw [e1]
 unfold AM.ovr
 simp only [List.length_replicate]
 simpa [List.append_assoc] using this
theorem ovr_length {cs ds:List D} {off:Nat} (h:off + ds.length ≤ cs.length):(ovr cs off ds).length=cs.length:=by simp [ovr]; omega
theorem rec_cells {d d':D} {cs:List D} (h:rec_ d cs=some d') (hc:(∃ xs,d=.a xs) ∨ ∀ c ∈ cs,c.cells=[c]):d'.cells=cs:=by
 unfold rec_ at h
 split at h
 ·cases h; rfl
 ·rename_i hna
  split at h
  ·cases h
   rcases hc with ⟨xs,rfl⟩ | hc
   ·exact absurd rfl (hna xs)
   ·exact hc _ (by simp)
  ·cases h
theorem set_elem {sz : Nat} {xs : List D} {ix fo : Nat} {d d' : D} {ds : List D} (hs : ∀ x ∈ xs, x.cells.length = sz) (hd : xs[ix]? = some d) (hle : fo + ds.length ≤ d.cells.length) (hr : rec_ d (ovr d.cells fo ds) = some d') (h1 : ∀ c ∈ ds, c.cells = [c]) :
    cellsOf (xs.set ix d')=ovr (cellsOf xs) (ix * sz + fo) ds ∧ (∀ x ∈ xs.set ix d',x.cells.length=sz):=by
 obtain ⟨e,l1,l2⟩:=cells_split hs hd
 have hlt:ix < xs.length:=by rw [List.getElem?_eq_some_iff] at hd; exact hd.1
 have hc:d'.cells=ovr d.cells fo ds:=by
  refine rec_cells hr ?_
  by_cases ha:∃ ys,d=.a ys
  ·exact .inl ha
  ·right
   have hdc:d.cells=[d] := by cases d <;> first | rfl | exact absurd ⟨_,rfl⟩ ha
   intro c hc
   unfold ovr at hc
   simp only [List.mem_append] at hc
   rcases hc with (hc | hc) | hc
   ·have:=List.mem_of_mem_take hc; rw [hdc] at this; simp at this; subst this; exact hdc
   ·exact h1 c hc
   ·have:=List.mem_of_mem_drop hc; rw [hdc] at this; simp at this; subst this; exact hdc
 have hcl:d'.cells.length=sz:=by rw [hc,ovr_length hle,l2]
 refine ⟨?_,?_⟩
 ·rw [cellsOf_set hs hcl hlt,hc,e,← l1,ovr_mid hle,ovr_all (ovr_length hle)]
 ·intro x hx
  rcases List.mem_or_eq_of_mem_set hx with hx | rfl
  ·exact hs x hx
  ·exact hcl
theorem nrs_set {m:Nat} {xs:List D} {ix:Nat} {d':D} (h:D.nrs m xs=true) (hd:D.nr m d'=true):D.nrs m (xs.set ix d')=true:=by
 by_cases hlt:ix < xs.length
 ·have h1:D.nrs m (xs.take ix ++ ([xs[ix]] ++ xs.drop (ix + 1)))=true:=by simpa using h
  rw [nrs_append,nrs_append,Bool.and_eq_true,Bool.and_eq_true] at h1
  rw [List.set_eq_take_append_cons_drop,if_pos hlt,show d' :: xs.drop (ix + 1)=[d'] ++ xs.drop (ix + 1) from rfl,nrs_append,nrs_append,Bool.and_eq_true,Bool.and_eq_true]
  exact ⟨h1.1,by simpa [D.nrs] using hd,h1.2.2⟩
 ·rw [List.set_eq_of_length_le (by omega)]; exact h
theorem nr_of_cells {m:Nat} {d:D} (h:D.nrs m d.cells=true):D.nr m d=true:=by rw [nrs_cells] at h; exact h
theorem nrs_mem {m:Nat}:∀ {xs:List D} {ix:Nat} {d:D},D.nrs m xs=true → xs[ix]? = some d → D.nr m d=true
 | x :: xs,0,d,h,hd=>by simp at hd; subst hd; simp [D.nrs] at h; exact h.1
 | x :: xs,ix + 1,d,h,hd=>by simp at hd; simp [D.nrs] at h; exact nrs_mem h.2 hd
theorem setAt_eta (s:St) (pl:Pl) (d:D):({ s.setAt pl d with lo:=s.lo }:St)=s.setAt pl d:=by cases pl <;> simp only [St.setAt] <;> split <;> rfl
theorem o_ld {P B g F s a w Q o t agg n m x x' dst r s' ac OO meth} (h : Sm B g F s a w [] [] []) (hd : ∀ k, o.dst = some k → k < B.nt) (hop : o.op = .load t x')
    (hx:chkX x x'=true) (hn0:n ≠ 0) (hc:chkLd P t agg n m=true) (he:evO OO meth (.ld agg n m x) s dst=some (r,s',ac)):Done P B o a w Q s' r:=by
 refine o_ld_row h hd hop hx hn0 hc he ?_
 intro F' s1 pl ix fo k hq he1
 obtain ⟨b,o1,len,cap,sz0,xs0,hv,hat,hix,ev⟩:=hq
 simp only [ldp,hat] at he1
 split at he1
 ·cases he1
 ·rename_i d hdx
  have hne:xs0 ≠ [] := by rintro rfl; simp at hix
  split at he1
  ·cases he1
  ·rename_i ds hs
   obtain ⟨M,hM,hMs,hMn,hput⟩:=k.place hat hv
   obtain ⟨b',o2,cap',us,G,e1,rfl,hcap,hsz,hu,h1,hroom,him,hcells⟩:=x_inv hM hne
   cases e1
   have hsub:=sub_elem hsz hdx hs
   obtain ⟨A',_,_,hr⟩:=hcells.part hsub
   have hlen:((us.drop (ix * sz0 + fo)).take n).length=n:=by rw [← hr.length]; exact (sub_len hs).1
   have h1':∀ v ∈ (us.drop (ix * sz0 + fo)).take n,v.oneCell'=true:=fun v hv=>h1 v (List.mem_of_mem_drop (List.mem_of_mem_take hv))
   have hcell:∀ (j:Nat) (v:Value),((us.drop (ix * sz0 + fo)).take n)[j]? = some v → w.cell? ⟨b,o1 + ix * sz0 + fo + j,none⟩=some v:=by
    intro j v hj
    rw [List.getElem?_take] at hj
    split at hj
    ·rw [List.getElem?_drop] at hj
     have:=hu _ _ hj
     rw [show o1 + ix * sz0 + fo + j=o1 + (ix * sz0 + fo + j) by omega]; exact this
    ·cases hj
   have hrun:=run_ld hop ev hc hlen hcell
   cases m with
   | cp =>
    simp only at he1
    split at he1
    ·rename_i es hcp
     simp only [Option.map_eq_some_iff] at he1
     obtain ⟨dd,h3,h4⟩:=he1
     cases h4
     exact done_v hd hrun (k.drop (ofc_load (hr.cp es hcp) h3 h1'))
    ·cases he1
   | hd=>simp at he1
   | tk =>
    simp only at he1
    split at he1
    ·rename_i d' hrec
     simp only [Option.map_eq_some_iff] at he1
     obtain ⟨dd,h3,h4⟩:=he1
     cases h4
     have hle:=(sub_len hs).2
     obtain ⟨c1,c2⟩:=set_elem hsz hdx (by simpa using hle) hrec (fun c hc=>by rw [List.eq_of_mem_replicate hc]; rfl)
     obtain ⟨A,M2,C,eG,kd,kk⟩:=rv_out hcells hsub
     have hlt:ix < xs0.length:=hix
     have hx':g.rv w [.l .x sz0 (xs0.set ix d')] [.slice (some ⟨b,o1,none⟩) xs0.length cap] (b :: (A ++ C)):=by
      have:=RVs.lx (im:=g.im) (gl:=g.gl) (w:=w) sz0 (xs0.set ix d') b o1 cap us (by simpa using hcap) c2 hu h1 hroom him (by rw [c1]; exact kk) .nil
      simpa using this
     obtain ⟨F2,k2⟩:=hput g w (xs0.set ix d') (b :: (A ++ C)) ds ((us.drop (ix * sz0 + fo)).take n) M2 s1.lo (Chg.refl k _) (by simp) hx' kd
      ⟨[],by rw [eG]; simpa using perm_out b A M2 C⟩ (Nat.le_refl _)
      (fun _ _ _ _ m hm=>nrs_set hm (nr_of_cells (by
       have hd0:D.nrs m d.cells=true:=by rw [nrs_cells]; exact nrs_mem hm hdx
       have hrc:d'.cells=ovr d.cells fo (List.replicate n .w):=by
        refine rec_cells hrec ?_
        by_cases ha:∃ ys,d=.a ys
        ·exact .inl ha
        ·right
         have hdc:d.cells=[d] := by cases d <;> first | rfl | exact absurd ⟨_,rfl⟩ ha
         intro c hc
         unfold ovr at hc
         simp only [List.mem_append] at hc
         rcases hc with (hc | hc) | hc
         ·have:=List.mem_of_mem_take hc; rw [hdc] at this; simp at this; subst this; exact hdc
         ·rw [List.eq_of_mem_replicate hc]; rfl
         ·have:=List.mem_of_mem_drop hc; rw [hdc] at this; simp at this; subst this; exact hdc
       rw [hrc]; exact nrs_out hd0 hle)))
     rw [setAt_eta] at k2
     exact done_v hd hrun (k2.weaken _ _ M2 (ofc_load kd h3 h1') (by simp) k2.dj.ndx)
    ·cases he1
mutual
theorem o_lda {P B g F s a w Q o t n x x' dst r s' ac OO meth} (h : Sm B g F s a w [] [] []) (hd : ∀ k, o.dst = some k → k < B.nt) (hop : o.op = .load t x')
    (hx:chkX x x'=true) (hn0:n ≠ 0) (hc:chkLd P t false n .hd=true) (he:evO OO meth (.lda n x) s dst=some (r,s',ac)):Done P B o a w Q s' r:=by
 simp only [evO] at he
 split at he
 ·rename_i r1 s1 h1
  have hm:chkLd P t false n (auM s1 r1)=true:=by
   simp only [chkLd,Bool.and_eq_true] at hc ⊢
   exact ⟨hc.1,by simp⟩
  exact o_ld (dst:=dst) (OO:=OO) (meth:=meth) (m:=auM s1 r1) h hd hop hx hn0 hm (by simp only [evO,h1]; exact he)
 ·cases he
theorem nr_mono {m n:Nat} (h:m ≤ n):∀ (d:D),D.nr m d=true → D.nr n d=true
 | .p r off,hd=>by simp only [D.nr,decide_eq_true_eq] at hd ⊢; omega
 | .q cs off,hd=>by simp only [D.nr] at hd ⊢; exact nrs_mono h cs hd
 | .l k sz xs,hd=>by simp only [D.nr] at hd ⊢; exact nrs_mono h xs hd
 | .a cs,hd=>by simp only [D.nr] at hd ⊢; exact nrs_mono h cs hd
 | .t cs,hd=>by simp only [D.nr] at hd ⊢; exact nrs_mono h cs hd
 | .ic ty v,hd=>by simp only [D.nr] at hd ⊢; exact nr_mono h v hd
 | .bm nm v,hd=>by simp only [D.nr] at hd ⊢; exact nr_mono h v hd
 | .fn g cs,hd=>by simp only [D.nr] at hd ⊢; exact nrs_mono h cs hd
 | .b _,_=>rfl
 | .i _ _,_=>rfl
 | .f _ _,_=>rfl
 | .s _,_=>rfl
 | .nilp,_=>rfl
 | .nili,_=>rfl
 | .nilf,_=>rfl
 | .mp,_=>rfl
 | .mo r,hd=>by simp only [D.nr,decide_eq_true_eq] at hd ⊢; omega
 | .u,_=>rfl
 | .w,_=>rfl
theorem nrs_mono {m n:Nat} (h:m ≤ n):∀ (ds:List D),D.nrs m ds=true → D.nrs n ds=true
 | [],_=>rfl
 | d :: ds,hd=>by
  simp only [D.nrs,Bool.and_eq_true] at hd ⊢
  exact ⟨nr_mono h d hd.1,nrs_mono h ds hd.2⟩
end
theorem rx_then {B g F s a w x x' r s1 y y' v s2} (h : Sm B g F s a w [] [] []) (hx : chkX x x' = true) (hy : chkX y y' = true) (h1 : rx x s = some (r, s1)) (h2 : rxv y s1 = some (v, s2)) (hr : ∀ d, r = .v d → (∃ gi off, d = .p gi off)) :
    ∃ F' Fy,Sm B g F' s2 a w [v] [a.eval y'] Fy ∧ ((∃ gi off,r=.v (.p gi off) ∧ g.rv w [.p gi off] [a.eval x'] []) ∨ ∃ q,r=.q q ∧ qOK g w s2 q (a.eval x')):=by
 rcases rx_sim h hx h1 with ⟨d,F1,Fy,rfl,k⟩ | ⟨q,F1,rfl,k,hq⟩
 ·obtain ⟨gi,off,rfl⟩:=hr d rfl
  obtain ⟨A,hA⟩:=k.last
  obtain ⟨b,ev,hA0,hg⟩:=p_inv hA
  subst hA0
  obtain ⟨F2,Fz,k2⟩:=rxv_sim (k.drop .nil) hy h2
  exact ⟨F2,_,by simpa using k2,.inl ⟨gi,off,rfl,hA⟩⟩
 ·obtain ⟨F2,Fz,k2⟩:=rxv_sim k hy h2
  exact ⟨F2,_,by simpa using k2,.inr ⟨q,rfl,hq.of_at (rxv_at h2)⟩⟩
theorem o_st {P B g F s a w Q o t n x y x' y' dst r s' ac OO meth} (h : Sm B g F s a w [] [] []) (hd : ∀ k, o.dst = some k → k < B.nt) (hop : o.op = .store t x' y')
    (hx:chkX x x'=true) (hy:chkX y y'=true) (hn0:n ≠ 0) (hc:szT P t=some n) (he:evO OO meth (.st n x y) s dst=some (r,s',ac)):Done P B o a w Q s' r:=by
 simp only [evO] at he
 split at he
 ·rename_i r1 s1 h1
  split at he
  ·rename_i v s2 h2
   split at he
   ·rename_i hst
    simp only [Option.map_eq_some_iff] at he
    obtain ⟨⟨s3,ac3⟩,h3,h4⟩:=he
    cases h4
    have hrp:∀ d,r1=.v d → ∃ gi off,d=.p gi off:=by
     rintro d rfl
     unfold stp at h3
     split at h3
     ·cases d <;> simp at h3 <;> exact ⟨_,_,rfl⟩
     ·cases h3
    obtain ⟨F2,Fy,k,hr⟩:=rx_then h hx hy h1 h2 hrp
    obtain ⟨hvc,hv1⟩:=stb_cells k.ex hst
    have hvl:=hvc.length
    simp at hvl
    unfold stp at h3
    split at h3
    ·rename_i hn
     rcases hr with ⟨gi,off,rfl,hp⟩ | ⟨q,rfl,hq⟩
     ·obtain ⟨b,ev,_,hg⟩:=p_inv hp
      simp only at h3
      split at h3
      ·cases h3
      ·rename_i cs hcs
       split at h3
       ·rename_i hle
        cases h3
        obtain ⟨b',hgp,hown⟩:=(k.gb gi cs hcs).ex (by rintro rfl; simp at hle; omega) hg
        have e2:=k.gpl _ _ hgp
        rw [hg] at e2; cases e2
        have hlt:gi < s2.sg.length:=by rw [List.getElem?_eq_some_iff] at hcs; exact hcs.1
        have hall:(F2 (.gb gi) ++ Fy).Nodup:=by rw [List.nodup_append]; exact ⟨k.dj.nd _,k.dj.ndx,fun x hx y hy e=>k.dj.dix _ x hx (e ▸ hy)⟩
        obtain ⟨L',M,k1,k2,k3,k4,k5,k6,k7⟩:=hown.into (B:=B) (ds:=v.cells) (off:=off) hall (by omega) hvc hv1 k.imok
        have hch:Chg B g g w (w.setCells b off (a.eval y').cells.toList) (F2 (.gb gi) ++ Fy):={ k2 with heap:=fun x hx=>k2.heap x (fun hm=>hx (by simp [hm])),imo:=fun x hx=>k2.imo x (fun hm=>hx (by simp [hm])) }
        have hres:=k.setgb (ds':=[]) (vs':=[]) (Fx':=[]) gi (ovr cs off v.cells) (if D.nr 0 v then s2.lo else min s2.lo gi) AM.Q.gl hlt hch (.inl ⟨b,hgp,k1⟩) .nil (by simpa using k3) (by simpa using k4)
         (by split; exact Nat.le_refl _; exact Nat.min_le_left _ _)
         (fun hl m c1 e1 hm=>by
          rw [hcs] at e1; cases e1
          split at hl
          ·rename_i h0
           refine nrs_ovr hm ?_
           rw [nrs_cells]
           exact nr_mono (Nat.zero_le _) v h0
          ·omega)
         (fun q v hp _ hq=>by simp [hp] at hq)
        exact done_s hd (by simp only [execOp,hop,ev,Sem.run_bind,run_storeAt hc (by omega) k5 k6 hv1,Result.andThen_ok,Sem.run_pure]) hres
       ·cases h3
     ·cases q with
      | ptr kk off =>
       obtain ⟨b,hl,ev⟩:=hq
       simp only at h3
       split at h3
       ·cases h3
       ·rename_i cs hcs
        split at h3
        ·rename_i hle
         cases h3
         have hown:=k.own_ob hl hcs
         have hall:(F2 (.ob kk) ++ Fy).Nodup:=by rw [List.nodup_append]; exact ⟨k.dj.nd _,k.dj.ndx,fun x hx y hy e=>k.dj.dix _ x hx (e ▸ hy)⟩
         obtain ⟨L',M,k1,k2,k3,k4,k5,k6,k7⟩:=hown.into (B:=B) (ds:=v.cells) (off:=off) hall (by omega) hvc hv1 k.imok
         have hch:Chg B g g w (w.setCells b off (a.eval y').cells.toList) (F2 (.ob kk) ++ Fy):={ k2 with heap:=fun x hx=>k2.heap x (fun hm=>hx (by simp [hm])),imo:=fun x hx=>k2.imo x (fun hm=>hx (by simp [hm])) }
         have hres:=k.setob (ds':=[]) (vs':=[]) (Fx':=[]) kk (ovr cs off v.cells) (AM.Q.bor kk) ⟨cs,hcs⟩ hch (by unfold obOK; rw [hl]; exact k1) .nil (by simpa using k3) (by simpa using k4)
          (fun q v hp hqo hok=>bor_ptr hp hok hqo (fun _ _ e=>e))
         exact done_s hd (by simp only [execOp,hop,ev,Sem.run_bind,run_storeAt hc (by omega) k5 k6 hv1,Result.andThen_ok,Sem.run_pure]) hres
        ·cases h3
      | hdr kk=>simp at h3
      | hd pl=>simp at h3
      | el pl ix fo =>
       obtain ⟨b,o1,len,cap,sz0,xs0,hv,hat,hix,ev⟩:=hq
       simp only [hat] at h3
       split at h3
       ·cases h3
       ·rename_i d hdx
        split at h3
        ·rename_i hle
         split at h3
         ·rename_i d' hrec
          cases h3
          have hne:xs0 ≠ [] := by rintro rfl; simp at hix
          obtain ⟨M,hM,hMs,hMn,hput⟩:=k.place hat hv
          obtain ⟨b',o2,cap',us,GG,e1,rfl,hcap,hsz,hu,h1,hroom,him,hcells⟩:=x_inv hM hne
          cases e1
          obtain ⟨c1,c2⟩:=set_elem hsz hdx (by omega) hrec (one_cells hvc hv1)
          obtain ⟨_,l1,l2⟩:=cells_split hsz hdx
          have hcl:=cellsOf_length hsz
          have hin:ix * sz0 + fo + v.cells.length ≤ (cellsOf xs0).length:=by
           rw [hcl]
           have:(ix + 1) * sz0 ≤ xs0.length * sz0:=Nat.mul_le_mul_right _ hix
           rw [Nat.add_mul] at this; omega
          obtain ⟨A,M2,C,rfl,kk⟩:=hcells.ovr hvc (off:=ix * sz0 + fo) hin
          obtain ⟨cc,ct,cf,hb1,hb2,hb3,hb4⟩:=hroom
          have hul:=hcells.length
          have hfit:o1 + ix * sz0 + fo + (a.eval y').cells.toList.length ≤ cc.size:=by
           have:xs0.length * sz0 ≤ cap * sz0:=Nat.mul_le_mul_right _ hcap
           simp; omega
          obtain ⟨q1,q2,q3,q4,q5,q6⟩:=heap_setCells b (a.eval y').cells.toList (o1 + ix * sz0 + fo) w cc ct cf hb1 hfit
          have hall:((b :: (A ++ (M2 ++ C))) ++ Fy).Nodup:=by
           rw [List.nodup_append]
           exact ⟨hMn,k.dj.ndx,fun x hx y hy e=>k.dj.dix _ x (hMs x hx) (e ▸ hy)⟩
          have hp:=perm_into b A M2 C Fy
          have hnd:=(List.nodup_append.1 (hp.nodup_iff.1 hall)).1
          have hw:∀ x,x ≠ b → (w.setCells b (o1 + ix * sz0 + fo) (a.eval y').cells.toList).heap[x]? = w.heap[x]? := q2
          have hch:Chg B g g w (w.setCells b (o1 + ix * sz0 + fo) (a.eval y').cells.toList) ((b :: (A ++ (M2 ++ C))) ++ Fy) :=
           ⟨fun x hx=>hw x (by rintro rfl; exact hx (by simp)),q3,fun _ _ _ e=>e,fun _ _ _=>rfl,fun c j u e=>by
            have hcb:c ≠ b:=by rintro rfl; rw [him] at e; cases e
            exact (World.cell?_of_block (w:=w) (a:=⟨c,j,none⟩) (hw c hcb)).trans (k.imok _ _ _ e),rfl,rfl,rfl,q4,q5,q6⟩
          have hkk:=kk.frame (im':=g.im) (gl':=g.gl) (w':=w.setCells b (o1 + ix * sz0 + fo) (a.eval y').cells.toList) (fun _ _ _ e=>e) (fun _ _ e=>e) (fun x hx=>⟨fun _=>rfl,hw x (by
           rintro rfl
           exact (List.nodup_cons.1 hnd).1 hx)⟩)
          have husl:ix * sz0 + fo + v.cells.length ≤ us.length:=by omega
          have hx':g.rv (w.setCells b (o1 + ix * sz0 + fo) (a.eval y').cells.toList) [.l .x sz0 (xs0.set ix d')] [.slice (some ⟨b,o1,none⟩) xs0.length cap] (b :: (A ++ Fy ++ C)):=by
           have:=RVs.lx (im:=g.im) (gl:=g.gl) (w:=w.setCells b (o1 + ix * sz0 + fo) (a.eval y').cells.toList) sz0 (xs0.set ix d') b o1 cap (us.take (ix * sz0 + fo) ++ (a.eval y').cells.toList ++ us.drop (ix * sz0 + fo + v.cells.length)) (by simpa using hcap) c2
            (by
             intro j u hj
             rw [cell_of_row _ _ _ _ _ _ q1]
             simp only [List.getElem?_toArray]
             have hvl2:(a.eval y').cells.toList.length=v.cells.length:=by simp; omega
             have husj:∀ j' u',us[j']? = some u' → cc[o1 + j']? = some u':=by
              intro j' u' hj'
              have:=hu j' u' hj'
              rwa [cell_of_row _ _ _ _ _ _ hb1] at this
             by_cases h1:j < ix * sz0 + fo
             ·rw [List.append_assoc,List.getElem?_append_left (by simp; omega),List.getElem?_take,if_pos h1] at hj
              rw [List.append_assoc,List.getElem?_append_left (by simp; omega),List.getElem?_take,if_pos (by omega)]
              simpa using husj j u hj
             ·by_cases h2:j < ix * sz0 + fo + v.cells.length
              ·rw [List.append_assoc,List.getElem?_append_right (by simp; omega),List.getElem?_append_left (by simp; omega)] at hj
               rw [List.append_assoc,List.getElem?_append_right (by simp; omega),List.getElem?_append_left (by simp; omega)]
               rw [← hj]; congr 1; simp; omega
              ·rw [List.getElem?_append_right (by simp; omega),List.getElem?_drop] at hj
               rw [List.getElem?_append_right (by simp; omega),List.getElem?_drop]
               have:=husj _ u hj
               rw [← this]
               simp only [Array.getElem?_toList]
               congr 1
               simp; omega)
            (by
             intro u hu'
             simp only [List.mem_append] at hu'
             rcases hu' with (hu' | hu') | hu'
             ·exact h1 u (List.mem_of_mem_take hu')
             ·exact hv1 u hu'
             ·exact h1 u (List.mem_of_mem_drop hu'))
            ⟨_,ct,cf,q1,by simp at hfit ⊢; omega,fun j hj=>(by
             have hj':j < cc.size:=by simp at hj hfit; omega
             rw [World.frozen?_setCells]; exact hb3 j hj'),hb4⟩ him (by rw [c1]; exact hkk) .nil
           simpa using this
          obtain ⟨F3,k3⟩:=hput g _ (xs0.set ix d') (b :: (A ++ Fy ++ C)) [] [] [] (s2.loAt v pl) hch (by simp) hx' .nil ⟨M2,by simpa using hp⟩
           (by unfold St.loAt; split; split; exact Nat.le_refl _; exact Nat.min_le_left _ _; exact Nat.le_refl _)
           (fun r off e hl m hm=>by
            subst e
            simp only [St.loAt] at hl
            split at hl
            ·rename_i h0
             refine nrs_set hm (nr_of_cells ?_)
             have hd0:D.nrs m d.cells=true:=by rw [nrs_cells]; exact nrs_mem hm hdx
             have hv0:D.nrs m v.cells=true:=by rw [nrs_cells]; exact nr_mono (Nat.zero_le _) v h0
             have hrc:d'.cells=ovr d.cells fo v.cells:=by
              refine rec_cells hrec ?_
              by_cases ha:∃ ys,d=.a ys
              ·exact .inl ha
              ·right
               have hdc:d.cells=[d] := by cases d <;> first | rfl | exact absurd ⟨_,rfl⟩ ha
               intro c hc
               unfold ovr at hc
               simp only [List.mem_append] at hc
               rcases hc with (hc | hc) | hc
               ·have:=List.mem_of_mem_take hc; rw [hdc] at this; simp at this; subst this; exact hdc
               ·exact one_cells hvc hv1 c hc
               ·have:=List.mem_of_mem_drop hc; rw [hdc] at this; simp at this; subst this; exact hdc
             rw [hrc]; exact nrs_ovr hd0 hv0
            ·omega)
          exact done_s hd (by
           have hc5:∀ j,j < (a.eval y').cells.toList.length → (w.cell? ⟨b,o1 + ix * sz0 + fo + j,none⟩).isSome=true:=by
            intro j hj
            rw [cell_of_row _ _ _ _ _ _ hb1]
            simp; omega
           simp only [execOp,hop,ev,Sem.run_bind,run_storeAt hc (by omega) hc5 (fun j hj=>hb3 _ (by omega)) hv1,Result.andThen_ok,Sem.run_pure]) k3
         ·cases h3
        ·cases h3
    ·cases h3
   ·cases he
  ·cases he
 ·cases he
end Go.AM
