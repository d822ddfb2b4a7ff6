import Derived.Test.YtomppgohoplemaaGreatNAH
import Derived.Test.YtomppgohoplemaaGreatNAD
import Derived.Test.YtomppgohoplemaaGreatNAC
import Derived.Test.YtomppgohoplemaaGreatRows
import Derived.Test.YtomppgohoplemaaGreatNAA
import Derived.IntWalk
import Derived.Outline
import Derived.Deep.DeepCutAuto
import Derived.Laws.BitsAllLaws
import Derived.Deep.QuietTactic
import Derived.BigQuiet
set_option linter.unusedVariables false
namespace Go.Proofs.YtomppgohoplemaaGreat
open Go.RowKit
end Go.Proofs.YtomppgohoplemaaGreat
namespace Go.Proofs.YtomppgohoplemaaGreat
structure IsNum {V:Type} (res:List UInt8→V×Nat×Nat):Prop where
 pre:∀l k,(res (l.take k)).2.2≠3→res l=res (l.take k)
 self:∀l,(res l).2.2=0→(res l).2.1≤l.length∧1≤(res l).2.1∧res (l.take (res l).2.1)=res l
 ten:∀l:List UInt8,10≤l.length→(res l).2.2≠3
 none_:∀l,(res l).2.2≠0→(res l).2.1=0
 le:∀l,(res l).2.2≤4
theorem IsNum.done {V:Type} {res:List UInt8→V×Nat×Nat} (h:IsNum res) {l:List UInt8} {k:Nat} (hk:k≤l.length) (hbef:∀j,j<k→(res (l.take j)).2.2=3) (he:(res (l.take k)).2.2≠3) :
  res l=res (l.take k)∧((res l).2.2=0→(res l).2.1=k):=by
 have e:=h.pre l k he
 refine⟨e,fun h0=>?_⟩
 obtain⟨a,b,c⟩:=h.self (l.take k) (by rw[←e];exact h0)
 rw[List.length_take]at a
 rw[e]
 rw[e]at h0
 apply Decidable.byContradiction
 intro hne
 have:=hbef (res (l.take k)).2.1 (by omega)
 rw[List.take_take,Nat.min_eq_left (by omega)]at c
 rw[c,h0]at this
 cases this
end Go.Proofs.YtomppgohoplemaaGreat
namespace Go.Proofs.YtomppgohoplemaaGreat
open Go.RowKit
theorem callF {P:Program} {F:FuncId} {fn:Func} (h1:P.funcs[F]?=some fn) (h2:(fn.name == "runtime.NumGoroutine")=false) (h3:fn.body.isNone=false) (args:Array Value) (W:World):(callFunc F args).run P W=.ok (.enter F args) W:=by
 unfold callFunc
 have h2':¬fn.name = "runtime.NumGoroutine":=by simpa using h2
 have h3':¬fn.body=none:=fun e=>by rw[e]at h3;cases h3
 simp[h1,h2',h3']
def Out (fl e:Int) (E:Nat) (r' e':Int) (P:Prop):Prop :=
 (e=0∧e'=0∧E=0∧P)∨(e'≠0∧((e≠0∧e'=e)∨(e=0∧E≠0∧e'=E)∨(e=0∧e'=9∧0≤fl∧fl<r')))
theorem Only.then_new {S:List Nat} {a b d:World} (h:Only S a b) (k:Below b.heap.size b d):Only S a d :=
 h.trans (Only.of_below k)
def U (n:Nat):Value:=.int .u64 (n:Int)
def T (b:Bool):Value:=.bool b
def OwnT (w:World) (base:Nat) (v:Value) (bs:List Bool):Prop:=w.ownsRow base 4 1 v bs.length (bs.map T)
theorem OwnT.push {w:World} {base:Nat} {v:Value} {bs:List Bool} {b:Bool} (h:w.ownsRow base 4 1 v (bs.length+1) (bs.map T++[T b])):OwnT w base v (bs++[b]) :=
 own_cast h (by simp) (by simp)
theorem OwnT.cast {w:World} {base:Nat} {v:Value} {bs bs':List Bool} (h:OwnT w base v bs) (e:bs=bs'):OwnT w base v bs':=e▸h
def ReadPost (w:World) (r:List Bool×Nat×Nat) (e:Ending) (w':World):Prop :=
 ∃v,e=.returned (.tuple #[v,.int .i64 r.2.1,.int .i64 r.2.2])∧OwnT w' w.heap.size v r.1∧Below w.heap.size w w'
theorem ReadPost.of {w w':World} {r:List Bool×Nat×Nat} {l:List Bool} {s e:Nat} {v:Value} (hr:r=(l,s,e)) (ho:OwnT w' w.heap.size v l) (hb:Below w.heap.size w w') :
  ReadPost w r (.returned (.tuple #[v,.int .i64 s,.int .i64 e])) w':=by subst hr;exact⟨v,rfl,ho,hb⟩
end Go.Proofs.YtomppgohoplemaaGreat
namespace Go.Proofs.YtomppgohoplemaaGreat
def over (n:Nat):List Bool→Nat→Bool
 | [],_=>false
 | b::r,i=>(decide (n≤i)&&b)||over n r (i+1)
end Go.Proofs.YtomppgohoplemaaGreat
namespace Go.Proofs.YtomppgohoplemaaGreat
open Go.RowKit
theorem Out.bind {fl r1 e1 r2 e2:Int} {E1 E:Nat} {P1 Q:Prop} (h1:Out fl 0 E1 r1 e1 P1) (hE:E1≠0→E=E1) (hr:r1≤r2) (hk:e1≠0→e2=e1) (h:P1→e1=0→E1=0→Out fl 0 E r2 e2 Q):Out fl 0 E r2 e2 Q:=by
 rcases h1 with ⟨_,a,b,p⟩|⟨a,h'⟩
 ·exact h p a b
 ·have he:=hk a
  rcases h' with ⟨x,_⟩|⟨_,x,y⟩|⟨_,x,y,z⟩
  ·exact absurd rfl x
  ·exact .inr ⟨by omega,.inr (.inl ⟨rfl,by rw[hE x];exact x,by rw[hE x];omega⟩)⟩
  ·exact .inr ⟨by omega,.inr (.inr ⟨rfl,by omega,y,by omega⟩)⟩
theorem Out.held {fl r' e e':Int} {E:Nat} {P:Prop} (h:Out fl e E r' e' P) (he:e≠0):e'=e:=by
 rcases h with ⟨a,_⟩|⟨_,⟨_,a⟩|⟨a,_⟩|⟨a,_⟩⟩
 ·exact absurd a he
 ·exact a
 ·exact absurd a he
 ·exact absurd a he
theorem Out.ok {fl r':Int} {E:Nat} {Q:Prop} (hE:E=0) (h:Q):Out fl 0 E r' 0 Q:=.inl ⟨rfl,rfl,hE,h⟩
def IV (w:World) (xb:Nat) (code:Int) (a b:Nat) (al:Int) (v:Value):Prop:=w.heap[xb]?=some (.cells #[.int .i64 code,.int .u64 (a:Int),.int .u64 (b:Int),.int .i64 al,v] 131 (0,0))
theorem IV.keep {w w':World} {xb:Nat} {code al:Int} {a b:Nat} {v:Value} {S:List Nat} (h:IV w xb code a b al v) (ho:Only S w w') (hx:xb∉S):IV w' xb code a b al v:=(ho.block xb (blk_lt h) hx).trans h
theorem IV.set {w:World} {xb:Nat} {code al:Int} {a b:Nat} {v:Value} (h:IV w xb code a b al v) :
  (∀x:Nat,IV (w.setCell ⟨xb,1,none⟩ (.int .u64 (x:Int))) xb code x b al v)∧(∀x:Nat,IV (w.setCell ⟨xb,2,none⟩ (.int .u64 (x:Int))) xb code a x al v)∧(∀x:Int,IV (w.setCell ⟨xb,3,none⟩ (.int .i64 x)) xb code a b x v)∧(∀x:Value,IV (w.setCell ⟨xb,4,none⟩ x) xb code a b al x):=by
 refine⟨fun x=>?_,fun x=>?_,fun x=>?_,fun x=>?_⟩<;>(unfold IV;rw[setCell_blk h];rfl)
def formV (c:Int):Int:=match opRow c with|none=>-1|some r=>r.form
theorem formV_ref {c:Int} (h:(opRow c).isSome=true):formV c=refForm c:=by
 unfold formV
 cases ho:opRow c with
 | none=>rw[ho]at h;cases h
 | some r=>exact(opRow_ref ho).2.1
set_option maxHeartbeats 1600000 in
theorem form_any (c a b al:Int) (Al:Option Addr) (n cl:Nat) (w:World) (h1:-9223372036854775808≤c) (h2:c≤9223372036854775807) :
  Calls Tryz.prog 102 #[.agg #[.int .i64 c,.int .u64 a,.int .u64 b,.int .i64 al,.slice Al n cl]] w fun e w'=>e=.returned (.int .i64 (formV c))∧Hid (Below w.heap.size w w'):=by
 have hb0:Below w.heap.size w (w.alloc (.cells #[.int .i64 c,.int .u64 a,.int .u64 b,.int .i64 al,.slice Al n cl] 131)):=(Below.refl _ _).alloc (Nat.le_refl _) _
 have HB0:=hide hb0;clear hb0
 cases ho:opRow c with
 | none =>
  have hv:formV c=-1:=by unfold formV;rw[ho]
  rw[hv]
  have HF:=hide (fun W=>find_none c W h1 h2 ho)
  clear hv ho
  go_enter Tryz.func102,Tryz.ntmps102
  go_wp2_with fail
  refine(HF.out _).mono ?_;rintro e w1 ⟨rfl,hb1⟩
  have hbel:Hid (Below w.heap.size w w1):=HB0.out.trans (hb1.out.mono (by simp))
  have hbel2:Hid (Below w.heap.size w (w1.alloc (.cells #[.int .i64 0,.string ⟨#[]⟩,.int .i64 0,.slice none 0 0,.slice none 0 0] 199))):=hbel.out.alloc hbel.out.size _
  go_wp2_with fail
  go_ret
  exact⟨rfl,hbel2⟩
 | some r =>
  have hv:formV c=r.form:=by unfold formV;rw[ho]
  rw[hv]
  have HF:=hide (fun W=>find_some c r W h1 h2 ho)
  clear hv ho
  go_enter Tryz.func102,Tryz.ntmps102
  go_wp2_with fail
  refine(HF.out _).mono ?_;rintro e w1 ⟨A1,c1,A2,c2,rfl,_,_,hb1⟩
  have hbel:Hid (Below w.heap.size w w1):=HB0.out.trans (hb1.out.mono (by simp))
  have hbel2:Hid (Below w.heap.size w (w1.alloc (.cells #[.int .i64 r.code,.string r.name,.int .i64 r.form,.slice A1 r.takes.size c1,.slice A2 r.gives.size c2] 199))):=hbel.out.alloc hbel.out.size _
  go_wp2_with fail
  go_ret
  exact⟨rfl,hbel2⟩
def blockedL (n:Int):Bool:=decide (n=64∨n=126∨n=127)
set_option maxHeartbeats 400000 in
theorem blocked_any (n:Int) (w:World):Calls Tryz.prog 119 #[.int .u64 n] w fun e w'=>e=.returned (.bool (blockedL n))∧w=w':=by
 by_cases h1:n=64
 ·subst h1
  have hv:blockedL 64=true:=by decide
  rw[hv]
  go_enter Tryz.func119,Tryz.ntmps119
  go_wp2_with fail
  go_ret
  exact⟨rfl,rfl⟩
 ·by_cases h2:n=127
  ·subst h2
   have hv:blockedL 127=true:=by decide
   rw[hv]
   go_enter Tryz.func119,Tryz.ntmps119
   go_wp2_with fail
   go_ret
   exact⟨rfl,rfl⟩
  ·by_cases h3:n=126
   ·subst h3
    have hv:blockedL 126=true:=by decide
    rw[hv]
    go_enter Tryz.func119,Tryz.ntmps119
    go_wp2_with fail
    go_ret
    exact⟨rfl,rfl⟩
   ·have hv:blockedL n=false:=by unfold blockedL;simp[h1,h2,h3]
    rw[hv]
    have f1:(n==64)=false:=by simpa using h1
    have f2:(n==127)=false:=by simpa using h2
    have f3:(n==126)=false:=by simpa using h3
    clear h1 h2 h3 hv
    go_enter Tryz.func119,Tryz.ntmps119
    go_wp2_with fail
    go_ret
    exact⟨rfl,rfl⟩
theorem Reads.bool {w:World} {Bk:Nat} {A:Option Addr} {bs:List Bool} {k:Nat} (h:Reads w Bk 1 A bs.length (bs.map T)) (hk:k<bs.length) :
  ∃(ad:Addr) (c:Bool),A=some ad∧Hid (bs[k]?=some c)∧w.cell? (ad.add k)=some (.bool c):=h.elem hk
def S3Post (w:World) (v:Int) (s:Nat) (e':Nat) (e:Ending) (w':World):Prop:=e=.returned (.tuple #[.int .i64 v,.int .i64 s,.int .i64 e'])∧Below w.heap.size w w'
theorem S3Post.of {w w':World} {v:Int} {s e':Nat} (hb:Below w.heap.size w w') {a b c:Value} (ha:a=.int .i64 v) (hb':b=.int .i64 s) (hc:c=.int .i64 e'):S3Post w v s e' (.returned (.tuple #[a,b,c])) w':=by
 subst ha hb' hc;exact⟨rfl,hb⟩
end Go.Proofs.YtomppgohoplemaaGreat
namespace Go.Proofs.YtomppgohoplemaaGreat
end Go.Proofs.YtomppgohoplemaaGreat
namespace Go.Proofs.YtomppgohoplemaaGreat
end Go.Proofs.YtomppgohoplemaaGreat
namespace Go.Proofs.YtomppgohoplemaaGreat
end Go.Proofs.YtomppgohoplemaaGreat
namespace Go.Proofs.YtomppgohoplemaaGreat
open Go.RowKit
structure XI where
 code:Int
 a:Nat
 b:Nat
 al:Int
 l:List Nat
structure XI.In (x:XI):Prop where
 c1:-9223372036854775808≤x.code
 c2:x.code≤9223372036854775807
 a:x.a<18446744073709551616
 b:x.b<18446744073709551616
 l1:-9223372036854775808≤x.al
 l2:x.al≤9223372036854775807
 l:∀n∈x.l,n<18446744073709551616
def small (n:Nat):Bool:=decide (n≤4294967295)
def blocked (n:Nat):Bool:=n==64||n==127||n==126
def rightF (f:Int) (x:XI):Bool :=
 if f=0 then x.a==0&&(x.b==0&&(x.al==0&&x.l.length==0))
 else if f=1 then blocked x.a&&(x.b==0&&(x.al==0&&x.l.length==0))
 else if f=2∨f=4∨f=6∨f=7∨f=9 then small x.a&&(x.b==0&&(x.al==0&&x.l.length==0))
 else if f=3 then small x.a&&(x.l.all small&&(decide (x.l.length≤100)&&(x.b==0&&x.al==0)))
 else if f=5∨f=10 then small x.a&&(small x.b&&(x.al==0&&x.l.length==0))
 else if f=8 then small x.a&&(decide (0≤x.al)&&(decide (x.al≤31)&&x.l.length==0))
 else if f=11 then (x.code==66||small x.a)&&(x.b==0&&(x.al==0&&x.l.length==0))
 else false
def rightX (x:XI):Bool:=(opRow x.code).isSome&&rightF (refForm x.code) x
def constI (wide:Bool) (a:Nat):Int:=if wide then (if a<9223372036854775808 then (a:Int)else (a:Int)-18446744073709551616)else (if a%4294967296<2147483648 then ((a%4294967296:Nat):Int)else ((a%4294967296:Nat):Int)-4294967296)
def headL (c:Int):List UInt8:=if c<256 then [UInt8.ofNat c.toNat]else 252::putN (c-64512).toNat
def bodyL (f:Int) (x:XI):List UInt8 :=
 if f=1 then [UInt8.ofNat x.a]
 else if f=2∨f=4∨f=6∨f=7∨f=9 then putN x.a
 else if f=3 then putN x.l.length++(x.l.flatMap putN++putN x.a)
 else if f=5∨f=10 then putN x.a++putN x.b
 else if f=8 then (if x.a=0 then putN x.al.toNat++putN x.b else putN (x.al.toNat+64)++(putN x.a++putN x.b))
 else if f=11 then putSN (constI (x.code==66) x.a)
 else []
def encX (x:XI):List UInt8:=headL x.code++bodyL (refForm x.code) x
theorem constI_bd (wide:Bool) (a:Nat) (h:a<18446744073709551616):-9223372036854775808≤constI wide a∧constI wide a≤9223372036854775807∧(wide=false→-2147483648≤constI wide a∧constI wide a<2147483648):=by
 cases wide<;>simp only[constI,Bool.false_eq_true,if_false,if_true]<;>split<;>simp<;>omega
def codeIn (c:Int):Bool:=(decide (0≤c)&&decide (c<256)&&!decide (c=252))||(decide (64512≤c)&&decide (c≤64529))
theorem codes_in:∀c∈allCodes,codeIn c=true:=by decide +kernel
theorem right_some {x:XI} (h:rightX x=true):∃r,opRow x.code=some r∧codeIn x.code=true∧rightF (refForm x.code) x=true:=by
 unfold rightX at h
 rw[Bool.and_eq_true]at h
 obtain⟨r,hr⟩:=Option.isSome_iff_exists.1 h.1
 exact⟨r,hr,codes_in _ (opRow_code hr),h.2⟩
structure MSg where
 p:List UInt8
 r:List UInt8
structure MBd where
 loc:List UInt8
 l:List XI
structure MFu where
 sig:Int
 bd:MBd
structure MIm where
 m:List UInt8
 n:List UInt8
 sig:Int
structure MLm where
 mn:Int
 mx:Int
 wide:Bool
structure MGl where
 t:UInt8
 mu:Bool
 v:Nat
structure MEx where
 name:List UInt8
 kind:Int
 ix:Int
structure MEl where
 at_:Nat
 fs:List Int
structure MDa where
 mem:Int
 at_:Nat
 bs:List UInt8
structure Mo where
 sigs:List MSg
 imps:List MIm
 funcs:List MFu
 table:Int
 mems:List MLm
 gls:List MGl
 exs:List MEx
 start:Int
 els:List MEl
 das:List MDa
def noSg:MSg:=⟨[],[]⟩
def noIm:MIm:=⟨[],[],0⟩
def noFu:MFu:=⟨0,⟨[],[]⟩⟩
def noLm:MLm:=⟨0,0,false⟩
def noGl:MGl:=⟨0,false,0⟩
def noEx:MEx:=⟨[],0,0⟩
def noEl:MEl:=⟨0,[]⟩
def noDa:MDa:=⟨0,0,[]⟩
def nmC (c:UInt8):Bool:=decide (33≤c.toNat)&&decide (c.toNat≤126)
def nmB (s:List UInt8):Bool:=s.all nmC&&(decide (0<s.length)&&decide (s.length≤30))
def inB (n:Int) (many:Nat):Bool:=decide (0≤n)&&decide (n<(many:Int))
def goodT8 (t:UInt8):Bool:=t==126||t==127
def typedB (l:List UInt8):Bool:=decide (l.length≤20)&&l.all goodT8
def limB (a b m:Int):Bool:=decide (0≤a)&&(decide (a≤m)&&(decide (b<0)||(decide (a≤b)&&decide (b≤m))))
def firstI (f:Nat→Nat):Nat→Nat
 | 0=>0
 | n+1=>if firstI f n≠0 then firstI f n else f n
theorem firstI_zero {f:Nat→Nat}:∀{n:Nat},(∀i,i<n→f i=0)→firstI f n=0
 | 0,_=>rfl
 | n+1,h=>by rw[firstI,firstI_zero (fun i hi=>h i (by omega)),if_neg (by simp)];exact h n (by omega)
theorem firstI_of_zero {f:Nat→Nat}:∀{n:Nat},firstI f n=0→∀i,i<n→f i=0
 | 0,_,i,hi=>by omega
 | n+1,h,i,hi=>by
  rw[firstI]at h
  split at h
  ·contradiction
  ·rename_i h0
   rcases Nat.lt_or_ge i n with hlt|hge
   ·exact firstI_of_zero (by omega) i hlt
   ·obtain rfl:i=n:=by omega
    exact h
theorem firstI_at {f:Nat→Nat} {k:Nat}:∀{n:Nat},k<n→(∀i,i<k→f i=0)→f k≠0→firstI f n=f k
 | 0,h,_,_=>by omega
 | n+1,h,h0,hk=>by
  rw[firstI]
  rcases Nat.lt_or_ge k n with hlt|hge
  ·rw[firstI_at hlt h0 hk,if_pos hk]
  ·obtain rfl:k=n:=by omega
   rw[firstI_zero h0,if_neg (by simp)]
def manyI (n most:Nat) (f:Nat→Nat):Nat:=if most<n then 15 else firstI f n
def Mo.all (m:Mo):Nat:=m.imps.length+m.funcs.length
def sgE (m:Mo) (i:Nat):Nat:=let s:=m.sigs.getD i noSg;if typedB s.p&&typedB s.r then 0 else 5
def imE (m:Mo) (i:Nat):Nat:=let x:=m.imps.getD i noIm;if nmB x.m&&nmB x.n then (if inB x.sig m.sigs.length then 0 else 2)else 16
def fuE (m:Mo) (i:Nat):Nat:=if inB (m.funcs.getD i noFu).sig m.sigs.length then 0 else 2
def tbE (m:Mo):Nat:=if m.table < -1 then 2 else if 1000<m.table then 15 else 0
def lmE (m:Mo) (i:Nat):Nat:=let l:=m.mems.getD i noLm;if limB l.mn l.mx 65536 then 0 else 5
def glE (m:Mo) (i:Nat):Nat:=let g:=m.gls.getD i noGl;if g.t==126||(g.t==127&&decide (g.v≤4294967295))then 0 else 5
def exK (m:Mo) (x:MEx):Bool :=
 (x.kind==0&&inB x.ix m.all)||((x.kind==1&&(decide (0≤m.table)&&x.ix==0))||((x.kind==2&&inB x.ix m.mems.length)||(x.kind==3&&inB x.ix m.gls.length)))
def exE (m:Mo) (i:Nat):Nat :=
 let x:=m.exs.getD i noEx
 if !nmB x.name||(m.exs.take i).any (fun y=>y.name==x.name)then 16 else if exK m x then 0 else 2
def sigN (m:Mo) (f:Nat):Int:=if f<m.imps.length then (m.imps.getD f noIm).sig else (m.funcs.getD (f-m.imps.length) noFu).sig
def sigOf (m:Mo) (f:Nat):MSg:=m.sigs.getD (sigN m f).toNat noSg
def stE (m:Mo):Nat:=if m.start=-1 then 0 else if inB m.start m.all then (if (sigOf m m.start.toNat).p.length+(sigOf m m.start.toNat).r.length=0 then 0 else 5)else 2
def elE (m:Mo) (i:Nat):Nat :=
 let x:=m.els.getD i noEl
 if 20<x.fs.length then 15 else if m.table<0∨4294967295<x.at_ then 2 else if x.fs.all (fun f=>inB f m.all)then 0 else 2
def daE (m:Mo) (i:Nat):Nat :=
 let x:=m.das.getD i noDa
 if 4096<x.bs.length then 15 else if inB x.mem m.mems.length then (if (m.mems.getD x.mem.toNat noLm).wide=false∧4294967295<x.at_ then 2 else 0)else 2
def sgsE (m:Mo):Nat:=manyI m.sigs.length 50 (sgE m)
def imsE (m:Mo):Nat:=manyI m.imps.length 20 (imE m)
def fusE (m:Mo):Nat:=if 100<m.all then 15 else firstI (fuE m) m.funcs.length
def lmsE (m:Mo):Nat:=manyI m.mems.length 4 (lmE m)
def glsE (m:Mo):Nat:=manyI m.gls.length 50 (glE m)
def exsE (m:Mo):Nat:=manyI m.exs.length 50 (exE m)
def elsE (m:Mo):Nat:=manyI m.els.length 20 (elE m)
def dasE (m:Mo):Nat:=manyI m.das.length 20 (daE m)
def partE (m:Mo):Nat→Nat
 | 0=>sgsE m
 | 1=>imsE m
 | 2=>fusE m
 | 3=>tbE m
 | 4=>lmsE m
 | 5=>glsE m
 | 6=>exsE m
 | 7=>stE m
 | 8=>elsE m
 | _=>dasE m
def partN:Nat→List UInt8
 | 0=>[115,105,103,115]
 | 1=>[105,109,112,111,114,116,115]
 | 2=>[102,117,110,99,115]
 | 3=>[116,97,98,108,101]
 | 4=>[109,101,109,115]
 | 5=>[103,108,111,98,97,108,115]
 | 6=>[101,120,112,111,114,116,115]
 | 7=>[115,116,97,114,116]
 | 8=>[101,108,101,109,115]
 | _=>[100,97,116,97]
def unfitFrom (m:Mo):Nat→Nat→List UInt8×Nat
 | 0,_=>([],0)
 | n+1,i=>if partE m i≠0 then (partN i,partE m i)else unfitFrom m n (i+1)
def unfitP (m:Mo):List UInt8×Nat:=unfitFrom m 10 0
theorem unfitFrom_ok {m:Mo}:∀(n i:Nat),(unfitFrom m n i).2=0→∀j,i≤j→j<i+n→partE m j=0
 | 0,i,_,j,h1,h2=>by omega
 | n+1,i,h,j,h1,h2=>by
  rw[unfitFrom]at h
  split at h
  ·contradiction
  ·rcases Nat.eq_or_lt_of_le h1 with rfl|hlt
   ·omega
   ·exact unfitFrom_ok n (i+1) h j hlt (by omega)
theorem unfit_ok {m:Mo} (h:(unfitP m).2=0):∀j,j<10→partE m j=0:=fun j hj=>unfitFrom_ok 10 0 h j (by omega) (by omega)
theorem manyI_ok {n most:Nat} {f:Nat→Nat} (h:manyI n most f=0):n≤most∧∀i,i<n→f i=0:=by
 unfold manyI at h
 split at h
 ·contradiction
 ·exact⟨by omega,firstI_of_zero h⟩
structure FitM (m:Mo):Prop where
 sigs:m.sigs.length≤50
 sig:∀(i:Nat) (s:MSg),m.sigs[i]?=some s→s.p.length≤20∧s.r.length≤20∧s.p.all goodT8=true∧s.r.all goodT8=true
 imps:m.imps.length≤20
 imp:∀(i:Nat) (x:MIm),m.imps[i]?=some x→inB x.sig m.sigs.length=true
 funcs:m.imps.length+m.funcs.length≤100
 func:∀(i:Nat) (x:MFu),m.funcs[i]?=some x→inB x.sig m.sigs.length=true
 mems:m.mems.length≤4
 gls:m.gls.length≤50
theorem getD_some {α:Type} {l:List α} {i:Nat} {x d:α} (h:l[i]?=some x):l.getD i d=x:=by simp[List.getD,h]
theorem getD_lt {α:Type} {l:List α} {i:Nat} {d:α} (h:i<l.length):l[i]?=some (l.getD i d):=by simp[List.getD,h]
theorem lt_some {α:Type} {l:List α} {i:Nat} {x:α} (h:l[i]?=some x):i<l.length:=(List.getElem?_eq_some_iff.1 h).1
theorem fit_of {m:Mo} (h:(unfitP m).2=0):FitM m:=by
 have H:=unfit_ok h
 have h0:=manyI_ok (H 0 (by omega));have h1:=manyI_ok (H 1 (by omega));have h2:fusE m=0:=H 2 (by omega)
 have h4:=manyI_ok (H 4 (by omega));have h5:=manyI_ok (H 5 (by omega))
 unfold fusE at h2
 split at h2
 ·contradiction
 rename_i h2l
 refine⟨h0.1,fun i s hs=>?_,h1.1,fun i x hx=>?_,by unfold Mo.all at h2l;omega,fun i x hx=>?_,h4.1,h5.1⟩
 ·have:=h0.2 i (lt_some hs)
  unfold sgE at this
  simp only[getD_some hs]at this
  split at this
  ·rename_i hq
   unfold typedB at hq
   simp only[Bool.and_eq_true,decide_eq_true_eq]at hq
   exact⟨hq.1.1,hq.2.1,hq.1.2,hq.2.2⟩
  ·contradiction
 ·have:=h1.2 i (lt_some hx)
  unfold imE at this
  simp only[getD_some hx]at this
  split at this
  ·split at this
   ·rename_i hq;exact hq
   ·contradiction
  ·contradiction
 ·have:=firstI_of_zero h2 i (lt_some hx)
  unfold fuE at this
  simp only[getD_some hx]at this
  split at this
  ·rename_i hq;exact hq
  ·contradiction
theorem FitM.num {m:Mo} (h:FitM m) {f:Nat} (hf:f<m.all):inB (sigN m f) m.sigs.length=true:=by
 unfold sigN
 split
 ·rename_i hlt
  exact h.imp f _ (getD_lt hlt)
 ·rename_i hge
  unfold Mo.all at hf
  exact h.func (f-m.imps.length) _ (getD_lt (by omega))
theorem inB_iff {n:Int} {k:Nat}:inB n k=true↔0≤n∧n<(k:Int):=by simp[inB]
end Go.Proofs.YtomppgohoplemaaGreat
