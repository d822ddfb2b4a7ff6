import Derived.Test.YtmekgpdfiimofaaGreatDoorWAF
import Derived.Laws.BitsAllLaws
import Derived.Deep.QuietTactic
import Derived.BigQuiet
set_option linter.unusedVariables false
namespace Go.Proofs.YtmekgpdfiimofaaGreatDoor
open Go.RowKit
theorem Out.bind {fl r1 e1 r2 e2:Int} {E1 E:Nat} {P1 Q:Prop} (h1:Out fl 0 E1 r1 e1 P1) (hE:E1≠0→E=E1) (hr:r1≤r2) (hk:e1≠0→e2=e1) (h:P1→e1=0→E1=0→Out fl 0 E r2 e2 Q):Out fl 0 E r2 e2 Q:=by
 rcases h1 with ⟨_,a,b,p⟩|⟨a,h'⟩
 ·exact h p a b
 ·have he:=hk a
  rcases h' with ⟨x,_⟩|⟨_,x,y⟩|⟨_,x,y,z⟩
  ·exact absurd rfl x
  ·exact .inr ⟨by omega,.inr (.inl ⟨rfl,by rw[hE x];exact x,by rw[hE x];omega⟩)⟩
  ·exact .inr ⟨by omega,.inr (.inr ⟨rfl,by omega,y,by omega⟩)⟩
theorem Out.held {fl r' e e':Int} {E:Nat} {P:Prop} (h:Out fl e E r' e' P) (he:e≠0):e'=e:=by
 rcases h with ⟨a,_⟩|⟨_,⟨_,a⟩|⟨a,_⟩|⟨a,_⟩⟩
 ·exact absurd a he
 ·exact a
 ·exact absurd a he
 ·exact absurd a he
theorem Out.ok {fl r':Int} {E:Nat} {Q:Prop} (hE:E=0) (h:Q):Out fl 0 E r' 0 Q:=.inl ⟨rfl,rfl,hE,h⟩
def IV (w:World) (xb:Nat) (code:Int) (a b:Nat) (al:Int) (v:Value):Prop:=w.heap[xb]?=some (.cells #[.int .i64 code,.int .u64 (a:Int),.int .u64 (b:Int),.int .i64 al,v] 133 (0,0))
theorem IV.keep {w w':World} {xb:Nat} {code al:Int} {a b:Nat} {v:Value} {S:List Nat} (h:IV w xb code a b al v) (ho:Only S w w') (hx:xb∉S):IV w' xb code a b al v:=(ho.block xb (blk_lt h) hx).trans h
theorem IV.set {w:World} {xb:Nat} {code al:Int} {a b:Nat} {v:Value} (h:IV w xb code a b al v) :
  (∀x:Nat,IV (w.setCell ⟨xb,1,none⟩ (.int .u64 (x:Int))) xb code x b al v)∧(∀x:Nat,IV (w.setCell ⟨xb,2,none⟩ (.int .u64 (x:Int))) xb code a x al v)∧(∀x:Int,IV (w.setCell ⟨xb,3,none⟩ (.int .i64 x)) xb code a b x v)∧(∀x:Value,IV (w.setCell ⟨xb,4,none⟩ x) xb code a b al x):=by
 refine⟨fun x=>?_,fun x=>?_,fun x=>?_,fun x=>?_⟩<;>(unfold IV;rw[setCell_blk h];rfl)
def formV (c:Int):Int:=match opRow c with|none=>-1|some r=>r.form
theorem formV_ref {c:Int} (h:(opRow c).isSome=true):formV c=refForm c:=by
 unfold formV
 cases ho:opRow c with
 | none=>rw[ho]at h;cases h
 | some r=>exact(opRow_ref ho).2.1
set_option maxHeartbeats 1600000 in
theorem form_any (c a b al:Int) (Al:Option Addr) (n cl:Nat) (w:World) (h1:-9223372036854775808≤c) (h2:c≤9223372036854775807) :
  Calls Tryz.prog 101 #[.agg #[.int .i64 c,.int .u64 a,.int .u64 b,.int .i64 al,.slice Al n cl]] w fun e w'=>e=.returned (.int .i64 (formV c))∧Hid (Below w.heap.size w w'):=by
 have hb0:Below w.heap.size w (w.alloc (.cells #[.int .i64 c,.int .u64 a,.int .u64 b,.int .i64 al,.slice Al n cl] 133)):=(Below.refl _ _).alloc (Nat.le_refl _) _
 have HB0:=hide hb0;clear hb0
 cases ho:opRow c with
 | none =>
  have hv:formV c=-1:=by unfold formV;rw[ho]
  rw[hv]
  have HF:=hide (fun W=>find_none c W h1 h2 ho)
  clear hv ho
  go_enter Tryz.func101,Tryz.ntmps101
  go_wp2_with fail
  refine(HF.out _).mono ?_;rintro e w1 ⟨rfl,hb1⟩
  have hbel:Hid (Below w.heap.size w w1):=HB0.out.trans (hb1.out.mono (by simp))
  have hbel2:Hid (Below w.heap.size w (w1.alloc (.cells #[.int .i64 0,.string ⟨#[]⟩,.int .i64 0,.slice none 0 0,.slice none 0 0] 192))):=hbel.out.alloc hbel.out.size _
  go_wp2_with fail
  go_ret
  exact⟨rfl,hbel2⟩
 | some r =>
  have hv:formV c=r.form:=by unfold formV;rw[ho]
  rw[hv]
  have HF:=hide (fun W=>find_some c r W h1 h2 ho)
  clear hv ho
  go_enter Tryz.func101,Tryz.ntmps101
  go_wp2_with fail
  refine(HF.out _).mono ?_;rintro e w1 ⟨A1,c1,A2,c2,rfl,_,_,hb1⟩
  have hbel:Hid (Below w.heap.size w w1):=HB0.out.trans (hb1.out.mono (by simp))
  have hbel2:Hid (Below w.heap.size w (w1.alloc (.cells #[.int .i64 r.code,.string r.name,.int .i64 r.form,.slice A1 r.takes.size c1,.slice A2 r.gives.size c2] 192))):=hbel.out.alloc hbel.out.size _
  go_wp2_with fail
  go_ret
  exact⟨rfl,hbel2⟩
def blockedL (n:Int):Bool:=decide (n=64∨n=126∨n=127)
set_option maxHeartbeats 400000 in
theorem blocked_any (n:Int) (w:World):Calls Tryz.prog 119 #[.int .u64 n] w fun e w'=>e=.returned (.bool (blockedL n))∧w=w':=by
 by_cases h1:n=64
 ·subst h1
  have hv:blockedL 64=true:=by decide
  rw[hv]
  go_enter Tryz.func119,Tryz.ntmps119
  go_wp2_with fail
  go_ret
  exact⟨rfl,rfl⟩
 ·by_cases h2:n=127
  ·subst h2
   have hv:blockedL 127=true:=by decide
   rw[hv]
   go_enter Tryz.func119,Tryz.ntmps119
   go_wp2_with fail
   go_ret
   exact⟨rfl,rfl⟩
  ·by_cases h3:n=126
   ·subst h3
    have hv:blockedL 126=true:=by decide
    rw[hv]
    go_enter Tryz.func119,Tryz.ntmps119
    go_wp2_with fail
    go_ret
    exact⟨rfl,rfl⟩
   ·have hv:blockedL n=false:=by unfold blockedL;simp[h1,h2,h3]
    rw[hv]
    have f1:(n==64)=false:=by simpa using h1
    have f2:(n==127)=false:=by simpa using h2
    have f3:(n==126)=false:=by simpa using h3
    clear h1 h2 h3 hv
    go_enter Tryz.func119,Tryz.ntmps119
    go_wp2_with fail
    go_ret
    exact⟨rfl,rfl⟩
theorem Reads.bool {w:World} {Bk:Nat} {A:Option Addr} {bs:List Bool} {k:Nat} (h:Reads w Bk 1 A bs.length (bs.map T)) (hk:k<bs.length) :
  ∃(ad:Addr) (c:Bool),A=some ad∧Hid (bs[k]?=some c)∧w.cell? (ad.add k)=some (.bool c):=h.elem hk
def S3Post (w:World) (v:Int) (s:Nat) (e':Nat) (e:Ending) (w':World):Prop:=e=.returned (.tuple #[.int .i64 v,.int .i64 s,.int .i64 e'])∧Below w.heap.size w w'
theorem S3Post.of {w w':World} {v:Int} {s e':Nat} (hb:Below w.heap.size w w') {a b c:Value} (ha:a=.int .i64 v) (hb':b=.int .i64 s) (hc:c=.int .i64 e'):S3Post w v s e' (.returned (.tuple #[a,b,c])) w':=by
 subst ha hb' hc;exact⟨rfl,hb⟩
end Go.Proofs.YtmekgpdfiimofaaGreatDoor
namespace Go.Proofs.YtmekgpdfiimofaaGreatDoor
end Go.Proofs.YtmekgpdfiimofaaGreatDoor
namespace Go.Proofs.YtmekgpdfiimofaaGreatDoor
end Go.Proofs.YtmekgpdfiimofaaGreatDoor
namespace Go.Proofs.YtmekgpdfiimofaaGreatDoor
end Go.Proofs.YtmekgpdfiimofaaGreatDoor
namespace Go.Proofs.YtmekgpdfiimofaaGreatDoor
open Go.RowKit
structure XI where
 code:Int
 a:Nat
 b:Nat
 al:Int
 l:List Nat
structure XI.In (x:XI):Prop where
 c1:-9223372036854775808≤x.code
 c2:x.code≤9223372036854775807
 a:x.a<18446744073709551616
 b:x.b<18446744073709551616
 l1:-9223372036854775808≤x.al
 l2:x.al≤9223372036854775807
 l:∀n∈x.l,n<18446744073709551616
def small (n:Nat):Bool:=decide (n≤4294967295)
def blocked (n:Nat):Bool:=n==64||n==127||n==126
def rightF (f:Int) (x:XI):Bool :=
 if f=0 then x.a==0&&(x.b==0&&(x.al==0&&x.l.length==0))
 else if f=1 then blocked x.a&&(x.b==0&&(x.al==0&&x.l.length==0))
 else if f=2∨f=4∨f=6∨f=7∨f=9 then small x.a&&(x.b==0&&(x.al==0&&x.l.length==0))
 else if f=3 then small x.a&&(x.l.all small&&(decide (x.l.length≤100)&&(x.b==0&&x.al==0)))
 else if f=5∨f=10 then small x.a&&(small x.b&&(x.al==0&&x.l.length==0))
 else if f=8 then small x.a&&(decide (0≤x.al)&&(decide (x.al≤31)&&x.l.length==0))
 else if f=11 then (x.code==66||small x.a)&&(x.b==0&&(x.al==0&&x.l.length==0))
 else false
def rightX (x:XI):Bool:=(opRow x.code).isSome&&rightF (refForm x.code) x
def constI (wide:Bool) (a:Nat):Int:=if wide then (if a<9223372036854775808 then (a:Int)else (a:Int)-18446744073709551616)else (if a%4294967296<2147483648 then ((a%4294967296:Nat):Int)else ((a%4294967296:Nat):Int)-4294967296)
def headL (c:Int):List UInt8:=if c<256 then [UInt8.ofNat c.toNat]else 252::putN (c-64512).toNat
def bodyL (f:Int) (x:XI):List UInt8 :=
 if f=1 then [UInt8.ofNat x.a]
 else if f=2∨f=4∨f=6∨f=7∨f=9 then putN x.a
 else if f=3 then putN x.l.length++(x.l.flatMap putN++putN x.a)
 else if f=5∨f=10 then putN x.a++putN x.b
 else if f=8 then (if x.a=0 then putN x.al.toNat++putN x.b else putN (x.al.toNat+64)++(putN x.a++putN x.b))
 else if f=11 then putSN (constI (x.code==66) x.a)
 else []
def encX (x:XI):List UInt8:=headL x.code++bodyL (refForm x.code) x
theorem constI_bd (wide:Bool) (a:Nat) (h:a<18446744073709551616):-9223372036854775808≤constI wide a∧constI wide a≤9223372036854775807∧(wide=false→-2147483648≤constI wide a∧constI wide a<2147483648):=by
 cases wide<;>simp only[constI,Bool.false_eq_true,if_false,if_true]<;>split<;>simp<;>omega
def codeIn (c:Int):Bool:=(decide (0≤c)&&decide (c<256)&&!decide (c=252))||(decide (64512≤c)&&decide (c≤64529))
theorem codes_in:∀c∈allCodes,codeIn c=true:=by decide +kernel
theorem right_some {x:XI} (h:rightX x=true):∃r,opRow x.code=some r∧codeIn x.code=true∧rightF (refForm x.code) x=true:=by
 unfold rightX at h
 rw[Bool.and_eq_true]at h
 obtain⟨r,hr⟩:=Option.isSome_iff_exists.1 h.1
 exact⟨r,hr,codes_in _ (opRow_code hr),h.2⟩
structure MSg where
 p:List UInt8
 r:List UInt8
structure MBd where
 loc:List UInt8
 l:List XI
structure MFu where
 sig:Int
 bd:MBd
structure MIm where
 m:List UInt8
 n:List UInt8
 sig:Int
structure MLm where
 mn:Int
 mx:Int
 wide:Bool
structure MGl where
 t:UInt8
 mu:Bool
 v:Nat
structure MEx where
 name:List UInt8
 kind:Int
 ix:Int
structure MEl where
 at_:Nat
 fs:List Int
structure MDa where
 mem:Int
 at_:Nat
 bs:List UInt8
structure Mo where
 sigs:List MSg
 imps:List MIm
 funcs:List MFu
 table:Int
 mems:List MLm
 gls:List MGl
 exs:List MEx
 start:Int
 els:List MEl
 das:List MDa
def noSg:MSg:=⟨[],[]⟩
def noIm:MIm:=⟨[],[],0⟩
def noFu:MFu:=⟨0,⟨[],[]⟩⟩
def noLm:MLm:=⟨0,0,false⟩
def noGl:MGl:=⟨0,false,0⟩
def noEx:MEx:=⟨[],0,0⟩
def noEl:MEl:=⟨0,[]⟩
def noDa:MDa:=⟨0,0,[]⟩
def nmC (c:UInt8):Bool:=decide (33≤c.toNat)&&decide (c.toNat≤126)
def nmB (s:List UInt8):Bool:=s.all nmC&&(decide (0<s.length)&&decide (s.length≤30))
def inB (n:Int) (many:Nat):Bool:=decide (0≤n)&&decide (n<(many:Int))
def goodT8 (t:UInt8):Bool:=t==126||t==127
def typedB (l:List UInt8):Bool:=decide (l.length≤20)&&l.all goodT8
def limB (a b m:Int):Bool:=decide (0≤a)&&(decide (a≤m)&&(decide (b<0)||(decide (a≤b)&&decide (b≤m))))
def firstI (f:Nat→Nat):Nat→Nat
 | 0=>0
 | n+1=>if firstI f n≠0 then firstI f n else f n
theorem firstI_zero {f:Nat→Nat}:∀{n:Nat},(∀i,i<n→f i=0)→firstI f n=0
 | 0,_=>rfl
 | n+1,h=>by rw[firstI,firstI_zero (fun i hi=>h i (by omega)),if_neg (by simp)];exact h n (by omega)
theorem firstI_of_zero {f:Nat→Nat}:∀{n:Nat},firstI f n=0→∀i,i<n→f i=0
 | 0,_,i,hi=>by omega
 | n+1,h,i,hi=>by
  rw[firstI]at h
  split at h
  ·contradiction
  ·rename_i h0
   rcases Nat.lt_or_ge i n with hlt|hge
   ·exact firstI_of_zero (by omega) i hlt
   ·obtain rfl:i=n:=by omega
    exact h
theorem firstI_at {f:Nat→Nat} {k:Nat}:∀{n:Nat},k<n→(∀i,i<k→f i=0)→f k≠0→firstI f n=f k
 | 0,h,_,_=>by omega
 | n+1,h,h0,hk=>by
  rw[firstI]
  rcases Nat.lt_or_ge k n with hlt|hge
  ·rw[firstI_at hlt h0 hk,if_pos hk]
  ·obtain rfl:k=n:=by omega
   rw[firstI_zero h0,if_neg (by simp)]
theorem firstI_congr {f g:Nat→Nat}:∀{n:Nat},(∀i,i<n→f i=g i)→firstI f n=firstI g n
 | 0,_=>rfl
 | n+1,h=>by rw[firstI,firstI,firstI_congr (n:=n) (fun i hi=>h i (by omega)),h n (by omega)]
def manyI (n most:Nat) (f:Nat→Nat):Nat:=if most<n then 15 else firstI f n
def Mo.all (m:Mo):Nat:=m.imps.length+m.funcs.length
def sgE (m:Mo) (i:Nat):Nat:=let s:=m.sigs.getD i noSg;if typedB s.p&&typedB s.r then 0 else 5
def imE (m:Mo) (i:Nat):Nat:=let x:=m.imps.getD i noIm;if nmB x.m&&nmB x.n then (if inB x.sig m.sigs.length then 0 else 2)else 16
def fuE (m:Mo) (i:Nat):Nat:=if inB (m.funcs.getD i noFu).sig m.sigs.length then 0 else 2
def tbE (m:Mo):Nat:=if m.table < -1 then 2 else if 1000<m.table then 15 else 0
def lmE (m:Mo) (i:Nat):Nat:=let l:=m.mems.getD i noLm;if limB l.mn l.mx 65536 then 0 else 5
def glE (m:Mo) (i:Nat):Nat:=let g:=m.gls.getD i noGl;if g.t==126||(g.t==127&&decide (g.v≤4294967295))then 0 else 5
def exK (m:Mo) (x:MEx):Bool :=
 (x.kind==0&&inB x.ix m.all)||((x.kind==1&&(decide (0≤m.table)&&x.ix==0))||((x.kind==2&&inB x.ix m.mems.length)||(x.kind==3&&inB x.ix m.gls.length)))
def exE (m:Mo) (i:Nat):Nat :=
 let x:=m.exs.getD i noEx
 if !nmB x.name||(m.exs.take i).any (fun y=>y.name==x.name)then 16 else if exK m x then 0 else 2
def sigN (m:Mo) (f:Nat):Int:=if f<m.imps.length then (m.imps.getD f noIm).sig else (m.funcs.getD (f-m.imps.length) noFu).sig
def sigOf (m:Mo) (f:Nat):MSg:=m.sigs.getD (sigN m f).toNat noSg
def stE (m:Mo):Nat:=if m.start=-1 then 0 else if inB m.start m.all then (if (sigOf m m.start.toNat).p.length+(sigOf m m.start.toNat).r.length=0 then 0 else 5)else 2
def elE (m:Mo) (i:Nat):Nat :=
 let x:=m.els.getD i noEl
 if 20<x.fs.length then 15 else if m.table<0∨4294967295<x.at_ then 2 else if x.fs.all (fun f=>inB f m.all)then 0 else 2
def daE (m:Mo) (i:Nat):Nat :=
 let x:=m.das.getD i noDa
 if 4096<x.bs.length then 15 else if inB x.mem m.mems.length then (if (m.mems.getD x.mem.toNat noLm).wide=false∧4294967295<x.at_ then 2 else 0)else 2
def sgsE (m:Mo):Nat:=manyI m.sigs.length 50 (sgE m)
def imsE (m:Mo):Nat:=manyI m.imps.length 20 (imE m)
def fusE (m:Mo):Nat:=if 100<m.all then 15 else firstI (fuE m) m.funcs.length
def lmsE (m:Mo):Nat:=manyI m.mems.length 4 (lmE m)
def glsE (m:Mo):Nat:=manyI m.gls.length 50 (glE m)
def exsE (m:Mo):Nat:=manyI m.exs.length 50 (exE m)
def elsE (m:Mo):Nat:=manyI m.els.length 20 (elE m)
def dasE (m:Mo):Nat:=manyI m.das.length 20 (daE m)
def partE (m:Mo):Nat→Nat
 | 0=>sgsE m
 | 1=>imsE m
 | 2=>fusE m
 | 3=>tbE m
 | 4=>lmsE m
 | 5=>glsE m
 | 6=>exsE m
 | 7=>stE m
 | 8=>elsE m
 | _=>dasE m
def partN:Nat→List UInt8
 | 0=>[115,105,103,115]
 | 1=>[105,109,112,111,114,116,115]
 | 2=>[102,117,110,99,115]
 | 3=>[116,97,98,108,101]
 | 4=>[109,101,109,115]
 | 5=>[103,108,111,98,97,108,115]
 | 6=>[101,120,112,111,114,116,115]
 | 7=>[115,116,97,114,116]
 | 8=>[101,108,101,109,115]
 | _=>[100,97,116,97]
def unfitFrom (m:Mo):Nat→Nat→List UInt8×Nat
 | 0,_=>([],0)
 | n+1,i=>if partE m i≠0 then (partN i,partE m i)else unfitFrom m n (i+1)
def unfitP (m:Mo):List UInt8×Nat:=unfitFrom m 10 0
theorem unfitFrom_ok {m:Mo}:∀(n i:Nat),(unfitFrom m n i).2=0→∀j,i≤j→j<i+n→partE m j=0
 | 0,i,_,j,h1,h2=>by omega
 | n+1,i,h,j,h1,h2=>by
  rw[unfitFrom]at h
  split at h
  ·contradiction
  ·rcases Nat.eq_or_lt_of_le h1 with rfl|hlt
   ·omega
   ·exact unfitFrom_ok n (i+1) h j hlt (by omega)
theorem unfit_ok {m:Mo} (h:(unfitP m).2=0):∀j,j<10→partE m j=0:=fun j hj=>unfitFrom_ok 10 0 h j (by omega) (by omega)
theorem manyI_ok {n most:Nat} {f:Nat→Nat} (h:manyI n most f=0):n≤most∧∀i,i<n→f i=0:=by
 unfold manyI at h
 split at h
 ·contradiction
 ·exact⟨by omega,firstI_of_zero h⟩
structure FitM (m:Mo):Prop where
 sigs:m.sigs.length≤50
 sig:∀(i:Nat) (s:MSg),m.sigs[i]?=some s→s.p.length≤20∧s.r.length≤20∧s.p.all goodT8=true∧s.r.all goodT8=true
 imps:m.imps.length≤20
 imp:∀(i:Nat) (x:MIm),m.imps[i]?=some x→inB x.sig m.sigs.length=true
 funcs:m.imps.length+m.funcs.length≤100
 func:∀(i:Nat) (x:MFu),m.funcs[i]?=some x→inB x.sig m.sigs.length=true
 mems:m.mems.length≤4
 gls:m.gls.length≤50
theorem getD_some {α:Type} {l:List α} {i:Nat} {x d:α} (h:l[i]?=some x):l.getD i d=x:=by simp[List.getD,h]
theorem getD_lt {α:Type} {l:List α} {i:Nat} {d:α} (h:i<l.length):l[i]?=some (l.getD i d):=by simp[List.getD,h]
theorem lt_some {α:Type} {l:List α} {i:Nat} {x:α} (h:l[i]?=some x):i<l.length:=(List.getElem?_eq_some_iff.1 h).1
theorem fit_of {m:Mo} (h:(unfitP m).2=0):FitM m:=by
 have H:=unfit_ok h
 have h0:=manyI_ok (H 0 (by omega));have h1:=manyI_ok (H 1 (by omega));have h2:fusE m=0:=H 2 (by omega)
 have h4:=manyI_ok (H 4 (by omega));have h5:=manyI_ok (H 5 (by omega))
 unfold fusE at h2
 split at h2
 ·contradiction
 rename_i h2l
 refine⟨h0.1,fun i s hs=>?_,h1.1,fun i x hx=>?_,by unfold Mo.all at h2l;omega,fun i x hx=>?_,h4.1,h5.1⟩
 ·have:=h0.2 i (lt_some hs)
  unfold sgE at this
  simp only[getD_some hs]at this
  split at this
  ·rename_i hq
   unfold typedB at hq
   simp only[Bool.and_eq_true,decide_eq_true_eq]at hq
   exact⟨hq.1.1,hq.2.1,hq.1.2,hq.2.2⟩
  ·contradiction
 ·have:=h1.2 i (lt_some hx)
  unfold imE at this
  simp only[getD_some hx]at this
  split at this
  ·split at this
   ·rename_i hq;exact hq
   ·contradiction
  ·contradiction
 ·have:=firstI_of_zero h2 i (lt_some hx)
  unfold fuE at this
  simp only[getD_some hx]at this
  split at this
  ·rename_i hq;exact hq
  ·contradiction
theorem FitM.num {m:Mo} (h:FitM m) {f:Nat} (hf:f<m.all):inB (sigN m f) m.sigs.length=true:=by
 unfold sigN
 split
 ·rename_i hlt
  exact h.imp f _ (getD_lt hlt)
 ·rename_i hge
  unfold Mo.all at hf
  exact h.func (f-m.imps.length) _ (getD_lt (by omega))
theorem inB_iff {n:Int} {k:Nat}:inB n k=true↔0≤n∧n<(k:Int):=by simp[inB]
inductive RR (α:Type) where
 | ok (a:α)
 | bad (n:Nat)
def RR.then {α β:Type} (r:RR α) (f:α→RR β):RR β:=match r with
 | .ok a=>f a
 | .bad n=>.bad n
structure PB where
 lp:Bool
 is_:Bool
 res:List UInt8
 h:Nat
 dead:Bool
structure PS where
 st:List UInt8
 bl:List PB
def noPB:PB:=⟨false,false,[],0,false⟩
def PS.top (s:PS):PB:=s.bl.getD (s.bl.length-1) noPB
def need {α:Type} (is_:Bool) (e:Nat) (r:RR α):RR α:=if is_ then r else .bad e
def popP (s:PS) (want:UInt8):RR (PS×UInt8) :=
 if s.st.length=s.top.h then need s.top.dead 5 (.ok (s,want))
 else
  let got:=s.st.getD (s.st.length-1) 0
  need (got==want||(got==0||want==0)) 5 (.ok (⟨s.st.take (s.st.length-1),s.bl⟩,if got=0 then want else got))
def popsR (s:PS):List UInt8→RR PS
 | []=>.ok s
 | t::r=>(popP s t).then fun q=>popsR q.1 r
def popsP (s:PS) (l:List UInt8):RR PS:=popsR s l.reverse
def pushP (s:PS) (l:List UInt8):PS:=⟨s.st++l,s.bl⟩
def setTop (s:PS) (b:PB):List PB:=s.bl.set (s.bl.length-1) b
def killP (s:PS):PS:=⟨s.st.take s.top.h,setTop s { s.top with dead:=true }⟩
def openP (s:PS) (c:Int) (a:Nat):PS:=⟨s.st,s.bl++[⟨c==3,c==4,if a=64 then []else [UInt8.ofNat a],s.st.length,false⟩]⟩
def closeP (s:PS):RR (PS×PB) :=
 (popsP s s.top.res).then fun q=>need (q.st.length==s.top.h) 5 (.ok (⟨q.st,q.bl.take (q.bl.length-1)⟩,s.top))
def otherP (s:PS):RR PS:=(closeP s).then fun q=>.ok ⟨q.1.st,q.1.bl++[{ q.2 with is_:=false,dead:=false }]⟩
def endP (s:PS):RR PS:=(closeP s).then fun q=>need (!q.2.is_||q.2.res.length==0) 5 (.ok (pushP q.1 q.2.res))
def labelP (s:PS) (n:Nat):RR (List UInt8) :=
 need (decide (n<s.bl.length)) 2 (let b:=s.bl.getD (s.bl.length-1-n) noPB;.ok (if b.lp then []else b.res))
def labelsIn (s:PS):List Nat→RR Unit
 | []=>.ok ()
 | n::r=>(labelP s n).then fun _=>labelsIn s r
def labelsEq (s:PS) (want:List UInt8):List Nat→RR Unit
 | []=>.ok ()
 | n::r=>(labelP s n).then fun l=>need (l==want) 5 (labelsEq s want r)
def pop1 (s:PS) (t:UInt8):RR PS:=(popP s t).then fun q=>.ok q.1
def branchP (s:PS) (x:XI):RR PS :=
 (labelP s x.a).then fun want=>(labelsIn s x.l).then fun _=>(labelsEq s want x.l).then fun _=>(pop1 s 127).then fun s1=>(popsP s1 want).then fun s2=>.ok (killP s2)
structure PE where
 m:Mo
 loc:List UInt8
 p:List UInt8
 r:List UInt8
def ctrlC (c:Int):Bool:=c==0||(c==2||(c==3||(c==4||(c==5||(c==11||(c==12||(c==13||(c==14||c==15))))))))
def controlP (v:PE) (s:PS) (x:XI):RR PS :=
 if x.code=0 then .ok (killP s)
 else if x.code=4 then (pop1 s 127).then fun s1=>.ok (openP s1 x.code x.a)
 else if x.code=2∨x.code=3 then .ok (openP s x.code x.a)
 else if x.code=5 then otherP s
 else if x.code=11 then endP s
 else if x.code=12 then (labelP s x.a).then fun l=>(popsP s l).then fun s1=>.ok (killP s1)
 else if x.code=13 then (labelP s x.a).then fun l=>(pop1 s 127).then fun s1=>(popsP s1 l).then fun s2=>.ok (pushP s2 l)
 else if x.code=14 then branchP s x
 else (popsP s v.r).then fun s1=>.ok (killP s1)
def localP (v:PE) (n:Nat):RR UInt8:=need (decide (n<v.loc.length)) 2 (.ok (v.loc.getD n 0))
def globalP (v:PE) (n:Nat):RR MGl:=need (decide (n<v.m.gls.length)) 2 (.ok (v.m.gls.getD n noGl))
def varC (c:Int):Bool:=c==32||(c==33||(c==34||(c==35||c==36)))
def variableP (v:PE) (s:PS) (x:XI):RR PS :=
 if x.code=32 then (localP v x.a).then fun t=>.ok (pushP s [t])
 else if x.code=33 then (localP v x.a).then fun t=>pop1 s t
 else if x.code=34 then (localP v x.a).then fun t=>(pop1 s t).then fun s1=>.ok (pushP s1 [t])
 else if x.code=35 then (globalP v x.a).then fun g=>.ok (pushP s [g.t])
 else (globalP v x.a).then fun g=>need g.mu 5 (pop1 s g.t)
def applyP (s:PS) (p r:List UInt8):RR PS:=(popsP s p).then fun s1=>.ok (pushP s1 r)
def callC (c:Int):Bool:=c==16||(c==17||(c==26||c==27))
def hasSig (m:Mo) (f:Nat):Bool:=decide (f<m.all)&&inB (sigN m f) m.sigs.length
def callP (v:PE) (s:PS) (x:XI):RR PS :=
 if x.code=16 then need (hasSig v.m x.a) 2 (applyP s (sigOf v.m x.a).p (sigOf v.m x.a).r)
 else if x.code=17 then need (decide (x.a<v.m.sigs.length)&&(x.b==0&&decide (0≤v.m.table))) 2 ((pop1 s 127).then fun s1=>applyP s1 (v.m.sigs.getD x.a noSg).p (v.m.sigs.getD x.a noSg).r)
 else if x.code=26 then pop1 s 0
 else (pop1 s 127).then fun s1=>(popP s1 0).then fun q=>(popP q.1 q.2).then fun q2=>.ok (pushP q2.1 [q2.2])
def memP (v:PE) (n:Nat):RR MLm:=need (decide (n<v.m.mems.length)) 2 (.ok (v.m.mems.getD n noLm))
def adrT (l:MLm):UInt8:=if l.wide then 126 else 127
def accessP (v:PE) (s:PS) (x:XI) (w:Nat) (tk gv:List UInt8):RR PS :=
 (memP v x.a).then fun l=>need (l.wide||decide (x.b≤4294967295)) 2 (need (decide (x.al<8)&&decide (2^x.al.toNat≤w)) 5 (applyP s (tk.set 0 (adrT l)) gv))
def bulkP (v:PE) (s:PS) (x:XI):RR PS :=
 (memP v x.a).then fun l =>
  if x.code=63 then .ok (pushP s [adrT l])
  else if x.code=64 then (pop1 s (adrT l)).then fun s1=>.ok (pushP s1 [adrT l])
  else if x.code=64523 then popsP s [adrT l,127,adrT l]
  else (memP v x.b).then fun k=>popsP s [adrT l,adrT k,if adrT l=126∧adrT k=126 then 126 else 127]
def stepP (v:PE) (s:PS) (x:XI) (f:Int) (w:Nat) (tk gv:List UInt8):RR PS :=
 if ctrlC x.code then controlP v s x
 else if varC x.code then variableP v s x
 else if callC x.code then callP v s x
 else if f=8 then accessP v s x w tk gv
 else if f=9∨f=10 then bulkP v s x
 else applyP s tk gv
def runC (step:PS→XI→RR PS):List XI→PS→Nat→List Nat→List Nat×Nat×Nat
 | [],_,_,hs=>(hs,0,0)
 | x::r,s,i,hs=>match step s x with
  | .ok s1=>runC step r s1 (i+1) (hs++[s.st.length])
  | .bad n=>([],i,n)
structure InvP (s:PS):Prop where
 ne:s.bl≠[]
 top:s.top.h≤s.st.length
 mono:s.bl.Pairwise (fun a b=>a.h≤b.h)
 res:∀b∈s.bl,b.res.length≤1000
theorem top_last {s:PS} (h:s.bl≠[]):s.bl[s.bl.length-1]?=some s.top:=by
 have:s.bl.length-1<s.bl.length:=by have:=List.length_pos_iff.2 h;omega
 exact getD_lt this
theorem need_ok {α:Type} {b:Bool} {e:Nat} {r:RR α} {a:α} (h:need b e r=.ok a):b=true∧r=.ok a:=by
 cases b with
 | true=>exact⟨rfl,h⟩
 | false=>simp[need]at h
theorem popP_ok {s:PS} {t:UInt8} {q:PS×UInt8} (h:popP s t=.ok q) (hi:InvP s):InvP q.1∧q.1.bl=s.bl∧q.1.st.length≤s.st.length:=by
 unfold popP at h
 split at h
 ·obtain⟨_,h⟩:=need_ok h
  injection h with h
  subst h
  exact⟨hi,rfl,Nat.le_refl _⟩
 ·rename_i hne
  obtain⟨_,h⟩:=need_ok h
  injection h with h
  subst h
  refine⟨⟨hi.ne,?_,hi.mono,hi.res⟩,rfl,by simp⟩
  have:=hi.top
  show s.top.h≤(s.st.take (s.st.length-1)).length
  rw[List.length_take]
  omega
theorem then_ok {α β:Type} {r:RR α} {f:α→RR β} {b:β} (h:r.then f=.ok b):∃a,r=.ok a∧f a=.ok b:=by
 cases r with
 | ok a=>exact⟨a,rfl,h⟩
 | bad n=>simp[RR.then]at h
theorem popsR_ok:∀{l:List UInt8} {s s2:PS},popsR s l=.ok s2→InvP s→InvP s2∧s2.bl=s.bl∧s2.st.length≤s.st.length
 | [],s,s2,h,hi=>by
  simp[popsR]at h
  subst h
  exact⟨hi,rfl,Nat.le_refl _⟩
 | t::r,s,s2,h,hi=>by
  obtain⟨q,h1,h2⟩:=then_ok h
  obtain⟨a,b,c⟩:=popP_ok h1 hi
  obtain⟨a2,b2,c2⟩:=popsR_ok h2 a
  exact⟨a2,b2.trans b,Nat.le_trans c2 c⟩
theorem popsP_ok {l:List UInt8} {s s2:PS} (h:popsP s l=.ok s2) (hi:InvP s):InvP s2∧s2.bl=s.bl∧s2.st.length≤s.st.length:=popsR_ok h hi
theorem pop1_ok {s s2:PS} {t:UInt8} (h:pop1 s t=.ok s2) (hi:InvP s):InvP s2∧s2.bl=s.bl∧s2.st.length≤s.st.length:=by
 obtain⟨q,h1,h2⟩:=then_ok h
 injection h2 with h2
 subst h2
 exact popP_ok h1 hi
theorem closeP_ok {s:PS} {q:PS×PB} (h:closeP s=.ok q) (hi:InvP s):q.2=s.top∧q.1.bl=s.bl.take (s.bl.length-1)∧q.1.st.length=s.top.h∧q.1.st.length≤s.st.length:=by
 obtain⟨s1,h1,h2⟩:=then_ok h
 obtain⟨hn,h3⟩:=need_ok h2
 injection h3 with h3
 subst h3
 obtain⟨_,hb,hl⟩:=popsP_ok h1 hi
 exact⟨rfl,by show s1.bl.take _=_;rw[hb],by simpa using hn,hl⟩
end Go.Proofs.YtmekgpdfiimofaaGreatDoor
