import Derived.Test.YtomppgohoplemaaGreatNBS
import Derived.Test.YtomppgohoplemaaGreatNAF
import Derived.Test.YtomppgohoplemaaGreatNAR
import Derived.BigQuiet
set_option linter.unusedVariables false
namespace Go.Proofs.YtomppgohoplemaaGreat
open Go.RowKit
structure RowF {α:Type} (w:World) (lo size:Nat) (dec:α→List Value) (s:Sl α):Prop where
 row:Row w size dec s
 ge:∀ad,s.at_=some ad→0<s.l.length→lo≤ad.block
def Off {α:Type} (v:Value) (s:Sl α):Prop:=∀ad,s.at_=some ad→0<s.l.length→v.ownBlock≠some ad.block
section
variable {α:Type} {w w':World} {lo lo' size:Nat} {dec:α→List Value} {s:Sl α} {v v':Value}
theorem Row.lt (h:Row w size dec s):∀ad,s.at_=some ad→0<s.l.length→ad.block<w.heap.size:=by
 intro ad ha h0
 obtain⟨ad',ha',hb,_⟩:=h.r.2 h0
 rw[ha]at ha'
 injection ha' with e
 rw[e]
 exact hb
theorem Row.only {S:List Nat} (h:Row w size dec s) (ho:Only S w w') (hS:∀ad,s.at_=some ad→0<s.l.length→ad.block∉S):Row w' size dec s:=by
 refine⟨⟨h.r.1,fun h0=>?_⟩,h.c,h.m⟩
 obtain⟨ad,ha,hb,hc⟩:=h.r.2 h0
 refine⟨ad,ha,Nat.lt_of_lt_of_le hb ho.size,fun j u hu=>?_⟩
 have hc2:w'.cell? (ad.add j)=w.cell? (ad.add j):=World.cell?_of_block (by rw[block_of_add];exact ho.block _ hb (hS ad ha h0))
 rw[hc2]
 exact hc j u hu
theorem RowF.only {S:List Nat} (h:RowF w lo size dec s) (ho:Only S w w') (hS:∀ad,s.at_=some ad→0<s.l.length→ad.block∉S):RowF w' lo size dec s:=⟨h.row.only ho hS,h.ge⟩
theorem RowF.below (h:RowF w lo size dec s) (hb:Below w.heap.size w w'):RowF w' lo size dec s:=⟨h.row.below hb,h.ge⟩
theorem RowF.base (h:RowF w lo size dec s) (hl:lo'≤lo):RowF w lo' size dec s:=⟨h.row,fun ad ha h0=>Nat.le_trans hl (h.ge ad ha h0)⟩
theorem RowF.grow (h:RowF w lo size dec s) (ha:Off v s) (hg:Grows w w' v v'):RowF w' lo size dec s∧Off v' s:=by
 refine⟨h.only hg.only (fun ad h1 h0 hm=>ha ad h1 h0 (by simpa using hm)),fun ad h1 h0 e=>?_⟩
 rcases hg.lies with e2|⟨g,e2,hge⟩
 ·exact ha ad h1 h0 (by rw[←e2];exact e)
 ·rw[e2]at e
  injection e with e
  have:=h.row.lt ad h1 h0
  omega
theorem RowF.of_own {e:TypeId} {n c:Nat} {A:Option Addr} {l:List α} (h:w.ownsRow lo e size (.slice A n c) n (l.flatMap dec)) (hl:n=l.length):RowF w lo size dec ⟨A,c,l⟩:=by
 obtain⟨A2,c2,hv,h1,h2⟩:=own_form h
 injection hv with _ _ hc
 subst hc
 subst hl
 refine⟨⟨Reads.of_own h,h1,h2⟩,fun ad ha h0=>?_⟩
 have h0':0<l.length:=h0
 obtain⟨g,c3,hv3⟩:∃g q,Value.slice A l.length c=.slice (some ⟨g,0,none⟩) l.length q:=by
  obtain⟨g,q,hv,_⟩:=h.form h0'
  exact⟨g,q,hv⟩
 injection hv3 with e1 _ _
 have ha2:A=some ad:=ha
 rw[e1]at ha2
 injection ha2 with ha2
 subst ha2
 exact own_ge h g (by rw[e1];rfl)
theorem RowF.nil (w:World) (lo size:Nat) (dec:α→List Value) (A:Option Addr) (c:Nat) (hc:c≤maxLen):RowF w lo size dec ⟨A,c,[]⟩:=⟨⟨⟨by simp,fun h=>absurd h (by simp)⟩,Nat.zero_le _,hc⟩,fun ad _ h0=>by simp at h0⟩
theorem Off.none_ (h:v.ownBlock=none):Off v s:=fun ad _ _ e=>by rw[h]at e;cases e
theorem Off.new (h:RowF w lo size dec s) (hv:∀q,v.ownBlock=some q→q<lo):Off v s:=fun ad ha h0 e=>by have:=h.ge ad ha h0;have:=hv _ e;omega
end
theorem type_elemL:IsElem Tryz.prog 73 133 1 1:=IsElem.mk' Tryz.underlying73 (z:=.int .u8 0) (by kernel_rfl) rfl (by omega)
set_option maxHeartbeats 800000 in
theorem ltypes_any (s:Sl UInt8) (w:World) (hr:Hid (Row w 1 bD s)) (hl:s.l.length≤1000) :
  Calls Tryz.prog 24 #[.slice s.at_ s.l.length s.cap] w fun e w'=>∃s2:Sl UInt8,e=.returned (.slice s2.at_ s2.l.length s2.cap)∧Hid (s2.l=s.l)∧Hid (RowF w' w.heap.size 1 bD s2)∧Hid (Below w.heap.size w w'):=by
 obtain⟨A,cap,ts⟩:=s
 simp only at hl ⊢
 have hr2:Hid (Reads w w.heap.size 1 A ts.length (ts.map B)):=hr.out.bytes
 clear hr
 have hr:=hr2
 clear hr2
 obtain⟨base,hbase⟩:∃b,w.heap.size=b:=⟨_,rfl⟩
 have HBA:=hide hbase
 rw[hbase]at hr
 clear hbase
 go_enter Tryz.func24,Tryz.ntmps24
 go_wp2_with fail
 go_loopw [3,4] (fun v i w1=>∃k:Nat,i=.int .i64 k∧k≤ts.length∧Hid (w1.ownsRow base 133 1 v k ((ts.take k).map B))∧Hid (Below base w w1)∧base≤w1.heap.size) (fun _ i _=>ts.length-(intOf i).toNat)
 case atStart=>exact⟨0,rfl,by omega,own_nil _ _ _ _,Below.refl _ _,by rw[HBA.out];omega⟩
 case round =>
  obtain⟨k,rfl,hk,ho,hb,hbs⟩:=hrel
  by_cases hlt:k<ts.length
  ·have hrk:Reads wr base 1 A ts.length (ts.map B):=hr.out.below hb.out
   obtain⟨ad,c,rfl,hc,hcell,hc0,hc1⟩:=hrk.byte (k:=k) hlt
   have hst:ts.take (k+1)=ts.take k++[c]:=by rw[List.take_add_one,hc.out];rfl
   have HST:=hide hst
   have hroom:Room k 1 1:=room_of (by omega) (by omega)
   clear hrk hst
   go_wp2_with (at_builtin;refine wpList_push rfl _ _ rfl base type_elemL _ k ((ts.take k).map B) rfl wr _ _ rfl ho.out rfl rfl hroom hbs ?_;intro v' w' ho' hg')
   go_roundw
   case rel =>
    refine⟨k+1,by go_num,by omega,?_,hb.out.grown hg'.by_ hbs (own_ge ho.out),Nat.le_trans hbs hg'.by_.size⟩
    show World.ownsRow _ _ _ _ _ _ _
    rw[HST.out,List.map_append,List.map_singleton]
    exact ho'
   case measure=>simp[intOf]<;>omega
  ·have hkn:k=ts.length:=by omega
   subst hkn
   have hfull:=ho.out
   rw[List.take_length]at hfull
   obtain⟨A2,c2,hv,hc2,_⟩:=own_form hfull
   subst hv
   have HF:=hide hfull
   clear hlt hfull ho
   go_wp2_with fail
   go_ret
   exact⟨⟨A2,c2,ts⟩,rfl,rfl,by rw[HBA.out];exact RowF.of_own (by rw[map_bD];exact HF.out) rfl,by rw[HBA.out];exact hb.out⟩
theorem lins_any (x:XL) (w:World) (hr:Hid (Row w 1 uD x.l)) (hl:x.l.l.length≤1000) :
  Calls Tryz.prog 51 #[.agg #[.int .i64 x.code,.int .u64 (x.a:Int),.int .u64 (x.b:Int),.int .i64 x.al,.slice x.l.at_ x.l.l.length x.l.cap]] w fun e w' =>
   ∃A2 c2,e=.returned (.agg #[.int .i64 x.code,.int .u64 (x.a:Int),.int .u64 (x.b:Int),.int .i64 x.al,.slice A2 x.l.l.length c2])∧Hid (RowF w' w.heap.size 1 uD ⟨A2,c2,x.l.l⟩)∧Hid (Below w.heap.size w w'):=by
 have hm:(x.l.l.map fun n:Nat=>(n:Int)).flatMap u64D=x.l.l.flatMap uD:=by
  rw[List.flatMap_map]
  rfl
 have h:=insTo_any (x.code,(x.a:Int),(x.b:Int),x.al,⟨x.l.at_,x.l.cap,x.l.l.map fun n:Nat=>(n:Int)⟩,()) w (by show Reads _ _ _ _ _ _;simp only;rw[hm,List.length_map];exact hr.out.r) (by simp only;rw[List.length_map];omega)
 simp only[List.length_map]at h
 refine h.mono ?_
 rintro e w' ⟨A2,c2,he,ho,hb⟩
 simp only[List.length_map]at he ho
 rw[hm]at ho
 exact⟨A2,c2,he,RowF.of_own ho.out rfl,hb⟩
structure LsF (w:World) (lo:Nat) (s:Sl XL):Prop where
 l:RowF w lo 5 XL.cs s
 lab:∀x∈s.l,RowF w lo 1 uD x.l
theorem insL_elem:IsElem Tryz.prog 74 131 5 56:=IsElem.mk' Tryz.underlying74 (z:=.agg #[.int .i64 0,.int .u64 0,.int .u64 0,.int .i64 0,.slice none 0 0]) (by kernel_rfl) rfl (by omega)
set_option maxHeartbeats 1600000 in
theorem llist_any (s:Sl XL) (w:World) (hi:Hid (Row w 5 XL.cs s)) (hlab:Hid (∀x∈s.l,Row w 1 uD x.l)) (hl:s.l.length≤1000) (hll:Hid (∀x∈s.l,x.l.l.length≤1000)) :
  Calls Tryz.prog 38 #[.slice s.at_ s.l.length s.cap] w fun e w'=>∃s2:Sl XL,e=.returned (.slice s2.at_ s2.l.length s2.cap)∧Hid (s2.l.map XL.x=s.l.map XL.x)∧Hid (LsF w' w.heap.size s2)∧Hid (Below w.heap.size w w'):=by
 obtain⟨base,hbase⟩:∃b,w.heap.size=b:=⟨_,rfl⟩
 have HB:=hide hbase
 clear hbase
 go_enter Tryz.func38,Tryz.ntmps38
 go_wp2_with fail
 go_loopw [3,4] (fun v i w1=>∃(k:Nat) (zs:List XL),i=.int .i64 k∧k≤s.l.length∧zs.length=k∧Hid (w1.ownsRow base 131 5 v zs.length (zs.flatMap XL.cs))∧Hid (∀z∈zs,RowF w1 base 1 uD z.l∧Off v z.l)∧Hid (zs.map XL.x=(s.l.take k).map XL.x)∧Hid (Below base w w1)∧base≤w1.heap.size) (fun _ i _=>s.l.length-(intOf i).toNat)
 case atStart=>exact⟨0,[],rfl,by omega,rfl,own_nil _ _ _ _,(fun z hz=>by simp at hz),rfl,Below.refl _ _,by rw[HB.out];omega⟩
 case round =>
  obtain⟨k,zs,rfl,hk,hzl,ho,hlz,hx,hbl,hsz⟩:=hrel
  have HZL:=hide hzl
  clear hzl
  obtain⟨Av,cv,rfl,hcv1,hcv2⟩:=own_form ho.out
  by_cases hlt:k<s.l.length
  ·have hbl0:Hid (Below w.heap.size w wr):=by rw[HB.out];exact hbl.out
   obtain⟨z,hz⟩:∃z,s.l[k]?=some z:=⟨_,List.getElem?_eq_getElem hlt⟩
   have hzm:=List.mem_of_getElem? hz
   obtain⟨ad,ha,_,k0,kj⟩:=(hi.out.below hbl0.out).at_ (fun _=>rfl) hz
   have q0:wr.cell? (ad.add (k*5))=some (.int .i64 z.code):=k0 _ rfl (by omega)
   have q1:wr.cell? ⟨(ad.add (k*5)).block,(ad.add (k*5)).off+1,none⟩=some (.int .u64 (z.a:Int)):=kj 1 (by omega) (by omega) _ rfl
   have q2:wr.cell? ⟨(ad.add (k*5)).block,(ad.add (k*5)).off+2,none⟩=some (.int .u64 (z.b:Int)):=kj 2 (by omega) (by omega) _ rfl
   have q3:wr.cell? ⟨(ad.add (k*5)).block,(ad.add (k*5)).off+3,none⟩=some (.int .i64 z.al):=kj 3 (by omega) (by omega) _ rfl
   have q4:wr.cell? ⟨(ad.add (k*5)).block,(ad.add (k*5)).off+4,none⟩=some (.slice z.l.at_ z.l.l.length z.l.cap):=kj 4 (by omega) (by omega) _ rfl
   have HTO:=hide (lins_any z wr (hide ((hlab.out z hzm).below hbl0.out)) (hll.out z hzm))
   have hroom:Room zs.length 1 56:=room_of (by have:=HZL.out;omega) (by omega)
   have HZ:=hide hz
   rw[ha]
   clear k0 kj hz hzm ha
   go_wp2_with fail
   refine HTO.out.mono ?_;rintro e w2 ⟨A2,c2,rfl,ho2,hb2⟩
   have hown2:=hide (own_only3 (S:=[]) ho.out (Only.of_below hb2.out) (by simp))
   have hsz2:base≤w2.heap.size:=Nat.le_trans hsz hb2.out.size
   clear q0 q1 q2 q3 q4 HTO
   go_wp2_with (at_builtin;refine wpList_push_n rfl _ _ rfl base insL_elem (.slice Av zs.length cv) zs.length (zs.flatMap XL.cs) rfl w2 [.int .i64 z.code,.int .u64 (z.a:Int),.int .u64 (z.b:Int),.int .i64 z.al,.slice A2 z.l.l.length c2] 131 rfl hown2.out rfl rfl (by simp[Value.oneCell']) hroom hsz2 ?_;intro v' w3 ho3 hg3;have ho3':=hide ho3;have hg3':=hide hg3;clear ho3 hg3)
   have hb3:=hg3'.out.below hsz2 (own_ge hown2.out)
   have hnew:Hid (∀y∈zs++[(⟨z.code,z.a,z.b,z.al,⟨A2,c2,z.l.l⟩⟩:XL)],RowF w3 base 1 uD y.l∧Off v' y.l):=by
    show ∀y∈_,_
    intro y hy
    rcases List.mem_append.1 hy with hy|hy
    ·obtain⟨r1,r2⟩:=hlz.out y hy
     exact(r1.below hb2.out).grow r2 hg3'.out
    ·simp only[List.mem_singleton]at hy
     subst hy
     have hlt2:=own_lt ho.out
     exact(ho2.out.base (by omega)).grow (Off.new ho2.out hlt2) hg3'.out
   have hown3:Hid (w3.ownsRow base 131 5 v' (zs++[(⟨z.code,z.a,z.b,z.al,⟨A2,c2,z.l.l⟩⟩:XL)]).length ((zs++[(⟨z.code,z.a,z.b,z.al,⟨A2,c2,z.l.l⟩⟩:XL)]).flatMap XL.cs)):=own_cast ho3'.out (by simp) (by simp[XL.cs,XL.t,insD,Sl.val])
   go_roundw
   case rel =>
    refine⟨k+1,zs++[(⟨z.code,z.a,z.b,z.al,⟨A2,c2,z.l.l⟩⟩:XL)],by go_num,by omega,by simp[HZL.out],hown3,hnew,?_,(hbl.out.trans (hb2.out.mono hsz)).trans hb3,Nat.le_trans hsz2 hb3.size⟩
    show _=_
    rw[List.map_append,hx.out,List.take_add_one,HZ.out]
    simp[XL.x]
   case measure=>simp[intOf]<;>omega
  ·have hkn:k=s.l.length:=by omega
   subst hkn
   have hx':=hx.out
   rw[List.take_length]at hx'
   have HX:=hide hx'
   have hend:Hid (LsF wr w.heap.size ⟨Av,cv,zs⟩):=by
    rw[HB.out]
    exact⟨RowF.of_own ho.out rfl,fun z hz=>(hlz.out z hz).1⟩
   clear hlt hx' hx ho
   go_wp2_with fail
   go_ret
   exact⟨⟨Av,cv,zs⟩,rfl,HX,hend,by rw[HB.out];exact hbl.out⟩
structure BdF (w:World) (lo:Nat) (y:BdL):Prop where
 loc:RowF w lo 1 bD y.loc
 ls:LsF w lo y.l
theorem LsF.below {w w':World} {lo:Nat} {s:Sl XL} (h:LsF w lo s) (hb:Below w.heap.size w w'):LsF w' lo s:=⟨h.l.below hb,fun x hx=>(h.lab x hx).below hb⟩
theorem LsF.base {w:World} {lo lo':Nat} {s:Sl XL} (h:LsF w lo s) (hl:lo'≤lo):LsF w lo' s:=⟨h.l.base hl,fun x hx=>(h.lab x hx).base hl⟩
theorem RowF.only_lt {α:Type} {w w':World} {lo size:Nat} {dec:α→List Value} {s:Sl α} {S:List Nat} (h:RowF w lo size dec s) (ho:Only S w w') (hS:∀x∈S,x<lo):RowF w' lo size dec s :=
 h.only ho fun ad ha h0 hm=>by have:=h.ge ad ha h0;have:=hS _ hm;omega
theorem LsF.only_lt {w w':World} {lo:Nat} {s:Sl XL} {S:List Nat} (h:LsF w lo s) (ho:Only S w w') (hS:∀x∈S,x<lo):LsF w' lo s:=⟨h.l.only_lt ho hS,fun x hx=>(h.lab x hx).only_lt ho hS⟩
theorem BdF.below {w w':World} {lo:Nat} {y:BdL} (h:BdF w lo y) (hb:Below w.heap.size w w'):BdF w' lo y:=⟨h.loc.below hb,h.ls.below hb⟩
theorem BdF.base {w:World} {lo lo':Nat} {y:BdL} (h:BdF w lo y) (hl:lo'≤lo):BdF w lo' y:=⟨h.loc.base hl,h.ls.base hl⟩
theorem set_two_only {w:World} {g:Nat} {a b:Value} {t:TypeId} (h:w.heap[g]?=some (.cells #[a,b] t (0,0))) (u v:Value) :
  ∃W,(w.setCell ⟨g,0,none⟩ u).setCell ⟨g,1,none⟩ v=W∧Only [g] w W∧W.heap[g]?=some (.cells #[u,v] t (0,0)) :=
 ⟨_,rfl,(Only.setCell w (p:=⟨g,0,none⟩) (by simp) u).trans (Only.setCell _ (p:=⟨g,1,none⟩) (by simp) v),setCell_blk (setCell_blk h 0 u) 1 v⟩
def BodT (w:World) (y:BdL) (e:Ending) (w':World):Prop :=
 ∃y2:BdL,e=.returned (.agg #[.slice y2.loc.at_ y2.loc.l.length y2.loc.cap,.slice y2.l.at_ y2.l.l.length y2.l.cap])∧Hid (y2.g=y.g)∧Hid (BdF w' w.heap.size y2)∧Hid (Below w.heap.size w w')
set_option maxRecDepth 100000 in
set_option maxHeartbeats 1600000 in
theorem lbody_any (y:BdL) (w:World) (h:Hid (BdIn w y)) (hz:Hid (BdLen 151 61 110 y)) :
  Calls Tryz.prog 25 #[.agg #[.slice y.loc.at_ y.loc.l.length y.loc.cap,.slice y.l.at_ y.l.l.length y.l.cap]] w (BodT w y):=by
 obtain⟨W1,hW1,hb1,hx1,hs1⟩:=box_new w #[.slice y.loc.at_ y.loc.l.length y.loc.cap,.slice y.l.at_ y.l.l.length y.l.cap] 51
 obtain⟨W,hW,hb2,hx2,hs2⟩:=box_new W1 #[.slice none 0 0,.slice none 0 0] 76
 obtain⟨g,hg⟩:∃g,w.heap.size=g:=⟨_,rfl⟩
 rw[hg]at hx1 hs1
 rw[hs1]at hx2 hs2
 have hb:Below w.heap.size w W:=hb1.trans (hb2.mono hb1.size)
 have hx1W:=(hb2.block g (by omega)).trans hx1
 have hB:=hide (h.out.below hb)
 have HC:CellsOf W (g+2) g _:=CellsOf.of hx1W (by omega)
 have hX2:=hide hx2
 have HW1:=hide hW1;have HW:=hide hW;have HB:=hide hb;have HG:=hide hg
 have hz1:=hz.out.loc;have hz2:=hz.out.l
 have hszW:W.heap.size=g+2:=by omega
 clear hW1 hW hb1 hb2 hb hx1 hx2 hs1 hs2 hg hx1W
 go_enter Tryz.func25,Tryz.ntmps25
 go_upto_region 1 with fail
 rw[HW1.out,HW.out,HG.out]
 refine wp_region_last (l:=[_,_,_,_,_,_,_]) (o:=_) grew_ext (factsOf [fun v _=>v=.pointer (some ⟨g,0,none⟩),
  fun v _=>v=.slice y.loc.at_ y.loc.l.length y.loc.cap,
  fun v W=>∃s2:Sl UInt8,v=.slice s2.at_ s2.l.length s2.cap∧Hid (s2.l=y.loc.l)∧Hid (RowF W (g+2) 1 bD s2),
  fun v _=>v=.pointer (some ⟨g,1,none⟩),
  fun v _=>v=.slice y.l.at_ y.l.l.length y.l.cap,
  fun v W=>∃s3:Sl XL,v=.slice s3.at_ s3.l.length s3.cap∧Hid (s3.l.map XL.x=y.l.l.map XL.x)∧Hid (LsF W (g+2) s3),
  fun v W=>∃(s2:Sl UInt8) (s3:Sl XL),v=.agg #[.slice s2.at_ s2.l.length s2.cap,.slice s3.at_ s3.l.length s3.cap]∧Hid (s2.l=y.loc.l)∧Hid (RowF W (g+2) 1 bD s2)∧Hid (s3.l.map XL.x=y.l.l.map XL.x)∧Hid (LsF W (g+2) s3)]) (by kernel_rfl) (by kernel_rfl) (by kernel_rfl) ?_ ?_
 ·refine⟨?_,?_,?_,?_,?_,?_,?_,trivial⟩
  ·refine⟨fun ρ W' hk=>?_⟩
   have o1:ρ (.tmp 1)=.pointer (some ⟨g,0,none⟩):=hk.old 1 (by decide)
   exact OpOut.fieldAddr (x:=.tmp 1) rfl o1 (by go_simp) ⟨Below.refl _ _,rfl⟩
  ·refine⟨fun ρ W' hk=>?_⟩
   have h0:=(hk.fact 0 3 (by decide) rfl).pure
   have hc:=HC.out W' hk.below 0 (.slice y.loc.at_ y.loc.l.length y.loc.cap) rfl
   exact OpOut.load (x:=.tmp 3) rfl h0 (by go_simp) ⟨Below.refl _ _,rfl⟩
  ·refine⟨fun ρ W' hk=>?_⟩
   have h1:=(hk.fact 1 4 (by decide) rfl).pure
   refine OpOut.fn (args:=#[.slice y.loc.at_ y.loc.l.length y.loc.cap]) rfl (hk.func _) (by simp[h1]) Tryz.func24 (by kernel_rfl) rfl ?_
   refine(ltypes_any y.loc W' (hide (hB.out.loc.below hk.below)) (by omega)).mono ?_;rintro e w5 ⟨s2,rfl,s5,s6,hb5⟩
   exact⟨_,rfl,hb5.out,⟨s2,rfl,s5,s6.out.base (HC.size W' hk.below)⟩⟩
  ·refine⟨fun ρ W' hk=>?_⟩
   have o1:ρ (.tmp 1)=.pointer (some ⟨g,0,none⟩):=hk.old 1 (by decide)
   exact OpOut.fieldAddr (x:=.tmp 1) rfl o1 (by go_simp) ⟨Below.refl _ _,rfl⟩
  ·refine⟨fun ρ W' hk=>?_⟩
   have h3:=(hk.fact 3 6 (by decide) rfl).pure
   have hc:=HC.out W' hk.below 1 (.slice y.l.at_ y.l.l.length y.l.cap) rfl
   exact OpOut.load (x:=.tmp 6) rfl h3 (by go_simp) ⟨Below.refl _ _,rfl⟩
  ·refine⟨fun ρ W' hk=>?_⟩
   have h4:=(hk.fact 4 7 (by decide) rfl).pure
   refine OpOut.fn (args:=#[.slice y.l.at_ y.l.l.length y.l.cap]) rfl (hk.func _) (by simp[h4]) Tryz.func38 (by kernel_rfl) rfl ?_
   refine(llist_any y.l W' (hide (hB.out.l.below hk.below)) (hide (fun x hx=>(hB.out.lab x hx).below hk.below)) (by omega) (hide (fun x hx=>by have:=hz.out.lab x hx;omega))).mono ?_;rintro e w5 ⟨s3,rfl,s5,s6,hb5⟩
   exact⟨_,rfl,hb5.out,⟨s3,rfl,s5,s6.out.base (HC.size W' hk.below)⟩⟩
  ·refine⟨fun ρ W' hk=>?_⟩
   obtain⟨w2,hw2,s2,h2,e2,r2⟩:=hk.fact 2 5 (by decide) rfl
   obtain⟨w5,hw5,s3,h5,e5,r5⟩:=hk.fact 5 8 (by decide) rfl
   exact OpOut.build (us:=#[(0,.slice s2.at_ s2.l.length s2.cap),(1,.slice s3.at_ s3.l.length s3.cap)]) rfl (by simp[h2,h5]) (by go_simp) ⟨Below.refl _ _,s2,s3,rfl,e2,r2.out.below hw2,e5,r5.out.below hw5⟩
 ·intro vs W2 hb2 hf
  obtain⟨w6,hw6,s2,s3,h6,e2,r2,e3,r3⟩:=hf 6 (by decide)
  have t2:=hide (r2.out.below hw6)
  have t3:=hide (r3.out.below hw6)
  clear hf
  simp only[fillL]
  rw[h6]
  generalize vs 0=v0,vs 1=v1,vs 2=v2,vs 3=v3,vs 4=v4,vs 5=v5
  have hblk:=hide ((hb2.block (g+1) (by omega)).trans hX2.out)
  have e0:W2.cell? ⟨g+1,0,none⟩=some (.slice none 0 0):=cell_blk hblk.out 0
  have e1':W2.cell? ⟨g+1,1,none⟩=some (.slice none 0 0):=cell_blk hblk.out 1
  have z0:=frozen_blk hblk.out 0
  have z1:=frozen_blk hblk.out 1
  clear h6 hw6 r2 r3
  obtain⟨WE,hWE,hOE,hBE⟩:=set_two_only hblk.out (.slice s2.at_ s2.l.length s2.cap) (.slice s3.at_ s3.l.length s3.cap)
  have HWE:=hide hWE;have HOE:=hide hOE;have HBE:=hide hBE
  clear hWE hOE hBE
  go_frame
  go_wp2_with fail
  rw[HWE.out]
  clear e0 e1' z0 z1
  have t0:=cell_blk HBE.out 0
  have t1:=cell_blk HBE.out 1
  simp at t0 t1
  refine bodyPost_ret (v:=.agg #[.slice s2.at_ s2.l.length s2.cap,.slice s3.at_ s3.l.length s3.cap]) (by simp[results,Tryz.results25,go_sem,t0,t1]) rfl ?_
  have hbE:Below g w WE:=by
   have h1:Below g w W:=by rw[←HG.out];exact HB.out
   have h2:=hb2.size
   exact(h1.trans (hb2.mono (by omega))).trans (HOE.out.below (by omega) (by simp))
  refine⟨⟨s2,s3⟩,rfl,?_,⟨?_,?_⟩,by rw[HG.out];exact hbE⟩
  ·show (⟨s2.l,s3.l.map XL.x⟩:MBd)=⟨y.loc.l,y.l.l.map XL.x⟩
   rw[e2.out,e3.out]
  ·exact(t2.out.only_lt HOE.out (by simp)).base (by have:=HG.out;omega)
  ·exact(t3.out.only_lt HOE.out (by simp)).base (by have:=HG.out;omega)
structure Part {α:Type} (w:World) (mg size:Nat) (dec:α→List Value) (sv fv:Value) (s:Sl α):Prop where
 row:RowF w (mg+1) size dec s
 offS:Off sv s
 offF:Off fv s
structure TS (w:World) (mg:Nat) (m:MoL) (sv fv:Value) (zs:List SgL) (ys:List FuL):Prop where
 blk:w.heap[mg]?=some (.cells #[sv,m.imps.val,fv,.int .i64 m.table,m.mems.val,m.gls.val,m.exs.val,.int .i64 m.start,m.els.val,m.das.val] 82 (0,0))
 os:w.ownsRow (mg+1) 87 2 sv zs.length (zs.flatMap SgL.cs)
 of:w.ownsRow (mg+1) 78 3 fv ys.length (ys.flatMap FuL.cs)
 sf:∀q,sv.ownBlock=some q→fv.ownBlock≠some q
 sp:∀z∈zs,Part w mg 1 bD sv fv z.p∧Part w mg 1 bD sv fv z.r
 fp:∀y∈ys,Part w mg 1 bD sv fv y.bd.loc∧Part w mg 5 XL.cs sv fv y.bd.l∧∀x∈y.bd.l.l,Part w mg 1 uD sv fv x.l
section
variable {α:Type} {w w':World} {mg size:Nat} {dec:α→List Value} {sv fv sv' fv':Value} {s:Sl α} {m:MoL} {zs:List SgL} {ys:List FuL}
theorem Part.below (h:Part w mg size dec sv fv s) (hb:Below w.heap.size w w'):Part w' mg size dec sv fv s:=⟨h.row.below hb,h.offS,h.offF⟩
theorem Part.cell (h:Part w mg size dec sv fv s) (i:Nat) (u:Value):Part (w.setCell ⟨mg,i,none⟩ u) mg size dec sv fv s :=
 ⟨h.row.only_lt (S:=[mg]) (Only.setCell w (p:=⟨mg,i,none⟩) (by simp) u) (by simp),h.offS,h.offF⟩
theorem Part.growS (h:Part w mg size dec sv fv s) (hg:Grows w w' sv sv'):Part w' mg size dec sv' fv s:=by
 obtain⟨a,b⟩:=h.row.grow h.offS hg
 exact⟨a,b,h.offF⟩
theorem Part.growF (h:Part w mg size dec sv fv s) (hg:Grows w w' fv fv'):Part w' mg size dec sv fv' s:=by
 obtain⟨a,b⟩:=h.row.grow h.offF hg
 exact⟨a,h.offS,b⟩
theorem Part.new {lo:Nat} (h:RowF w lo size dec s) (hlo:mg<lo) (h1:∀q,sv.ownBlock=some q→q<lo) (h2:∀q,fv.ownBlock=some q→q<lo):Part w mg size dec sv fv s :=
 ⟨h.base hlo,Off.new h h1,Off.new h h2⟩
theorem TS.below (h:TS w mg m sv fv zs ys) (hb:Below w.heap.size w w'):TS w' mg m sv fv zs ys :=
 ⟨(hb.block mg (blk_lt h.blk)).trans h.blk,own_only3 (S:=[]) h.os (Only.of_below hb) (by simp),own_only3 (S:=[]) h.of (Only.of_below hb) (by simp),h.sf,fun z hz=>⟨(h.sp z hz).1.below hb,(h.sp z hz).2.below hb⟩,fun y hy=>⟨(h.fp y hy).1.below hb,(h.fp y hy).2.1.below hb,fun x hx=>((h.fp y hy).2.2 x hx).below hb⟩⟩
theorem TS.pushS {z:SgL} (h:TS w mg m sv fv zs ys) (hg:Grows w w' sv sv') (ho:w'.ownsRow (mg+1) 87 2 sv' (zs.length+1) (zs.flatMap SgL.cs++SgL.cs z)) (h1:Part w mg 1 bD sv fv z.p) (h2:Part w mg 1 bD sv fv z.r) :
  TS (w'.setCell ⟨mg,0,none⟩ sv') mg m sv' fv (zs++[z]) ys:=by
 have hl:∀q,sv'.ownBlock=some q→fv.ownBlock≠some q:=fun q hq=>by
  rcases hg.lies with e|⟨g,e,hge⟩
  ·rw[e]at hq;exact h.sf q hq
  ·rw[e]at hq;injection hq with hq;subst hq;exact fun e2=>by have:=own_lt h.of _ e2;omega
 have hblk:=(hg.only.block mg (blk_lt h.blk) (fun hm=>by have:=own_ge h.os mg (by simpa using hm);omega)).trans h.blk
 have hO:Only [mg] w' (w'.setCell ⟨mg,0,none⟩ sv'):=Only.setCell w' (p:=⟨mg,0,none⟩) (by simp) _
 have hne:∀{v:Value} {e:TypeId} {k n:Nat} {xs:List Value},w'.ownsRow (mg+1) e k v n xs→∀q,v.ownBlock=some q→q∉[mg]:=fun h q hq=>by have:=own_ge h q hq;simp;omega
 have hof:=own_only3 h.of hg.only (fun q hq hm=>h.sf q (by simpa using hm) hq)
 have hos:w'.ownsRow (mg+1) 87 2 sv' (zs++[z]).length ((zs++[z]).flatMap SgL.cs):=own_cast ho (by simp) (by simp)
 refine⟨by rw[setCell_blk hblk];rfl,own_only3 hos hO (hne hos),own_only3 hof hO (hne hof),hl,fun y hy=>?_,fun y hy=>⟨((h.fp y hy).1.growS hg).cell 0 _,((h.fp y hy).2.1.growS hg).cell 0 _,fun x hx=>(((h.fp y hy).2.2 x hx).growS hg).cell 0 _⟩⟩
 rcases List.mem_append.1 hy with hy|hy
 ·exact⟨((h.sp y hy).1.growS hg).cell 0 _,((h.sp y hy).2.growS hg).cell 0 _⟩
 ·simp only[List.mem_singleton]at hy
  subst hy
  exact⟨(h1.growS hg).cell 0 _,(h2.growS hg).cell 0 _⟩
theorem TS.pushF {y:FuL} (h:TS w mg m sv fv zs ys) (hg:Grows w w' fv fv') (ho:w'.ownsRow (mg+1) 78 3 fv' (ys.length+1) (ys.flatMap FuL.cs++FuL.cs y)) (h1:Part w mg 1 bD sv fv y.bd.loc) (h2:Part w mg 5 XL.cs sv fv y.bd.l) (h3:∀x∈y.bd.l.l,Part w mg 1 uD sv fv x.l) :
  TS (w'.setCell ⟨mg,2,none⟩ fv') mg m sv fv' zs (ys++[y]):=by
 have hl:∀q,sv.ownBlock=some q→fv'.ownBlock≠some q:=fun q hq hq2=>by
  rcases hg.lies with e|⟨g,e,hge⟩
  ·rw[e]at hq2;exact h.sf q hq hq2
  ·rw[e]at hq2;injection hq2 with hq2;subst hq2;have:=own_lt h.os _ hq;omega
 have hblk:=(hg.only.block mg (blk_lt h.blk) (fun hm=>by have:=own_ge h.of mg (by simpa using hm);omega)).trans h.blk
 have hO:Only [mg] w' (w'.setCell ⟨mg,2,none⟩ fv'):=Only.setCell w' (p:=⟨mg,2,none⟩) (by simp) _
 have hne:∀{v:Value} {e:TypeId} {k n:Nat} {xs:List Value},w'.ownsRow (mg+1) e k v n xs→∀q,v.ownBlock=some q→q∉[mg]:=fun h q hq=>by have:=own_ge h q hq;simp;omega
 have hos:=own_only3 h.os hg.only (fun q hq hm=>h.sf q hq (by simpa using hm))
 have hof:w'.ownsRow (mg+1) 78 3 fv' (ys++[y]).length ((ys++[y]).flatMap FuL.cs):=own_cast ho (by simp) (by simp)
 refine⟨by rw[setCell_blk hblk];rfl,own_only3 hos hO (hne hos),own_only3 hof hO (hne hof),hl,fun z hz=>⟨((h.sp z hz).1.growF hg).cell 2 _,((h.sp z hz).2.growF hg).cell 2 _⟩,fun u hu=>?_⟩
 rcases List.mem_append.1 hu with hu|hu
 ·exact⟨((h.fp u hu).1.growF hg).cell 2 _,((h.fp u hu).2.1.growF hg).cell 2 _,fun x hx=>(((h.fp u hu).2.2 x hx).growF hg).cell 2 _⟩
 ·simp only[List.mem_singleton]at hu
  subst hu
  exact⟨(h1.growF hg).cell 2 _,(h2.growF hg).cell 2 _,fun x hx=>((h3 x hx).growF hg).cell 2 _⟩
theorem TS.low (h:TS w mg m sv fv zs ys) {S:List Nat} (hS:∀x∈S,x=mg∨sv.ownBlock=some x∨fv.ownBlock=some x):∀x∈S,mg≤x:=fun x hx=>by
 rcases hS x hx with rfl|e|e
 ·exact Nat.le_refl _
 ·have:=own_ge h.os x e;omega
 ·have:=own_ge h.of x e;omega
end
section
variable {P:Program} {o:Oper} {ρ:Operand→Value} {W W':World} {post:Value→World→Prop} {v:Value}
theorem OpOut.storeT {t:TypeId} {x y:Operand} {a b:Value} (ho:o.op=.store t x y) (hx:ρ x=a) (hy:ρ y=b) (hr:(Instr.storeAt t a b).run P W=.ok () W') (h:post undef W'):OpOut P o ρ W post :=
 ⟨by unfold execOp;rw[ho];simp only[hx,hy,Sem.run_bind,Sem.run_pure,hr,Result.andThen_ok];exact h⟩
theorem OpOut.indexAddrT {t:TypeId} {x y:Operand} {a b:Value} (ho:o.op=.indexAddr t x y) (hx:ρ x=a) (hy:ρ y=b) (hr:(Instr.indexAt t a b).run P W=.ok v W) (h:post v W):OpOut P o ρ W post :=
 ⟨by unfold execOp;rw[ho];simp only[hx,hy,Sem.run_bind,Sem.run_pure,hr,Result.andThen_ok];exact h⟩
end
theorem sig_elem:IsElem Tryz.prog 79 87 2 48:=IsElem.mk' Tryz.underlying79 (z:=.agg #[.slice none 0 0,.slice none 0 0]) (by kernel_rfl) rfl (by omega)
theorem func_elem:IsElem Tryz.prog 80 78 3 56:=IsElem.mk' Tryz.underlying80 (z:=.agg #[.int .i64 0,.slice none 0 0,.slice none 0 0]) (by kernel_rfl) rfl (by omega)
end Go.Proofs.YtomppgohoplemaaGreat
