import Derived.Test.YtomppgohoplemaaGreatNBV
import Derived.Test.YtomppgohoplemaaGreatNBS
set_option linter.unusedVariables false
namespace Go.Proofs.YtomppgohoplemaaGreat
open Go.RowKit Go.Maps
theorem rwordN_lt4 (l:List UInt8):rwordN (l.take 4)≤4294967295:=by
 have h:=rwordN_lt (l.take 4)
 have h4:(l.take 4).length≤4:=by rw[List.length_take];omega
 have h2:2^(8*(l.take 4).length)≤2^(8*4):=Nat.pow_le_pow_right (by omega) (by omega)
 simp only[Nat.reduceMul,Nat.reducePow]at h2
 omega
theorem run_convUI {n:Nat} (h:n≤4294967295) (W:World):(convert 66 3 (.int .u64 (n:Int))).run Tryz.prog W=.ok (.int .i64 (n:Int)) W:=run_convU h W
def wordA (bs:List UInt8) (i:Nat):Nat:=rwordN ((bs.drop i).take 4)
def FitsJ (size:Nat) (at_ n:Int):Prop:=0≤n∧n≤(size:Int)∧at_≤(size:Int)∧0≤at_+12*n∧at_+12*n+12≤(size:Int)
def jmpAt (bs:List UInt8) (b:Nat):Jmp:=⟨wordA bs b,wordA bs (b+4),wordA bs (b+8)⟩
def GetP (s:ArS) (at_ n:Int) (w:World) (e:Ending) (w':World):Prop :=
 Hid (Below w.heap.size w w')∧((FitsJ s.size at_ n∧e=.returned (.tuple #[jV (jmpAt s.bs (at_+12*n).toNat),.int .i64 0]))∨(¬FitsJ s.size at_ n∧e=.returned (.tuple #[jV ⟨0,0,0⟩,.int .i64 2])))
set_option maxRecDepth 100000 in
set_option maxHeartbeats 3200000 in
theorem sget_out (s:ArS) (at_ n:Int) (w:World) (h:Hid (Ar w s)) (hx:n<0∨(s.size:Int)<n∨(s.size:Int)<at_) :
  Calls Tryz.prog 15 #[.pointer (some ⟨s.ag,0,none⟩),.int .i64 at_,.int .i64 n] w (GetP s at_ n w):=by
 have hnf:¬FitsJ s.size at_ n:=fun q=>by unfold FitsJ at q;omega
 obtain⟨W1,hW1,hb1,hx1,hs1⟩:=box_new w #[.int .i64 0,.int .i64 0,.int .i64 0] 55
 obtain⟨rb,hrb⟩:∃rb,w.heap.size=rb:=⟨_,rfl⟩
 rw[hrb]at hx1
 have hAr:=h.out.below hb1
 obtain⟨W2,hW2,hk2,ho2⟩:=store3J hx1 (.int .i64 0) (.int .i64 0) (.int .i64 0)
 have d0:=cell_blk hx1 0;have d1:=cell_blk hx1 1;have d2:=cell_blk hx1 2
 have f0:=frozen_blk hx1 0;have f1:=frozen_blk hx1 1;have f2:=frozen_blk hx1 2
 have t0:=cell_blk hk2 0;have t1:=cell_blk hk2 1;have t2:=cell_blk hk2 2
 simp at d0 d1 d2 t0 t1 t2
 have HB2:Hid (Below w.heap.size w W2):=hb1.trans (ho2.below hb1.size (by simp;omega))
 have HSZ:=hide (asize_any s W1 (hide hAr))
 have HW1:=hide hW1;have HW2:=hide hW2;have HRB:=hide hrb
 have fin:GetP s at_ n w (.returned (.tuple #[jV ⟨0,0,0⟩,.int .i64 2])) W2:=⟨HB2,.inr ⟨hnf,rfl⟩⟩
 have FIN:=hide fin
 clear hW1 hb1 hx1 hs1 hrb hAr hW2 hk2 ho2 fin hnf
 by_cases h0:n<0
 ·clear hx
  go_enter Tryz.func15,Tryz.ntmps15
  go_upto_region 1 with fail
  rw[HW1.out,HRB.out]
  go_wp2_with fail
  rw[HW2.out]
  refine bodyPost_ret (v:=.tuple #[jV ⟨0,0,0⟩,.int .i64 2]) (by unfold jV;simp[results,Tryz.results15,go_sem,t0,t1,t2]) rfl ?_
  exact FIN.out
 by_cases h1:(s.size:Int)<n
 ·clear hx
  go_enter Tryz.func15,Tryz.ntmps15
  go_upto_region 1 with fail
  rw[HW1.out,HRB.out]
  go_wp2_with fail
  refine HSZ.out.mono ?_;rintro e w' ⟨rfl,rfl⟩
  go_wp2_with fail
  rw[HW2.out]
  refine bodyPost_ret (v:=.tuple #[jV ⟨0,0,0⟩,.int .i64 2]) (by unfold jV;simp[results,Tryz.results15,go_sem,t0,t1,t2]) rfl ?_
  exact FIN.out
 have h2:(s.size:Int)<at_:=by omega
 clear hx
 go_enter Tryz.func15,Tryz.ntmps15
 go_upto_region 1 with fail
 rw[HW1.out,HRB.out]
 go_wp2_with fail
 refine HSZ.out.mono ?_;rintro e w' ⟨rfl,rfl⟩
 go_wp2_with fail
 refine HSZ.out.mono ?_;rintro e w' ⟨rfl,rfl⟩
 go_wp2_with fail
 rw[HW2.out]
 refine bodyPost_ret (v:=.tuple #[jV ⟨0,0,0⟩,.int .i64 2]) (by unfold jV;simp[results,Tryz.results15,go_sem,t0,t1,t2]) rfl ?_
 exact FIN.out
def w3V (bs:List UInt8) (b i:Nat):Array Value:=#[.int .i64 ((if 0<i then wordA bs b else 0:Nat):Int),.int .i64 ((if 1<i then wordA bs (b+4)else 0:Nat):Int),.int .i64 ((if 2<i then wordA bs (b+8)else 0:Nat):Int)]
set_option maxRecDepth 100000 in
set_option maxHeartbeats 3200000 in
theorem sget_in (s:ArS) (at_ n:Int) (w:World) (h:Hid (Ar w s)) (h0:0≤n) (h1:n≤(s.size:Int)) (h2:at_≤(s.size:Int)) (hat:-9223372036854775808≤at_) :
  Calls Tryz.prog 15 #[.pointer (some ⟨s.ag,0,none⟩),.int .i64 at_,.int .i64 n] w (GetP s at_ n w):=by
 obtain⟨W1,hW1,hb1,hx1,hs1⟩:=box_new w #[.int .i64 0,.int .i64 0,.int .i64 0] 55
 obtain⟨rb,hrb⟩:∃rb,w.heap.size=rb:=⟨_,rfl⟩
 rw[hrb]at hx1 hs1
 have HSZ:=hide (asize_any s W1 (hide (h.out.below hb1)))
 obtain⟨W2,hW2,hb2,hx2,hs2⟩:=box_new W1 #[.int .i64 0,.int .i64 0,.int .i64 0] 110
 rw[hs1]at hx2 hs2 hb2
 have hx12:=(hb2.block rb (by omega)).trans hx1
 have hb12:Below w.heap.size w W2:=hb1.trans (hb2.mono (by omega))
 have hz:=h.out.sz
 have hz2:(s.size:Int)≤65535:=by omega
 have h00:¬(n<0):=by omega
 have h10:¬((s.size:Int)<n):=by omega
 have h20:¬((s.size:Int)<at_):=by omega
 have HW1:=hide hW1;have HW2:=hide hW2;have HRB:=hide hrb;have HS1:=hide hs1;have HX12:=hide hx12;have HX2:=hide hx2;have HB12:=hide hb12;have HS2:=hide hs2
 clear hW1 hb1 hx1 hs1 hrb hW2 hb2 hx2 hs2 hx12 hb12
 go_enter Tryz.func15,Tryz.ntmps15
 go_upto_region 1 with fail
 rw[HW1.out,HRB.out]
 go_wp2_with fail
 refine HSZ.out.mono ?_;rintro e w' ⟨rfl,rfl⟩
 go_wp2_with fail
 refine HSZ.out.mono ?_;rintro e w' ⟨rfl,rfl⟩
 go_wp2_with fail
 rw[HW2.out,HS1.out]
 go_loopw [9,10,11,27] (fun _ _ _ c V=>∃i:Nat,c=.int .i64 (i:Int)∧i≤3∧(0<i→0≤at_+12*n∧at_+12*n+4*(i:Int)≤(s.size:Int))∧Hid (V.heap[rb+1]?=some (.cells (w3V s.bs (at_+12*n).toNat i) 110 (0,0)))∧Hid (Only [rb+1] W2 V)) (fun _ _ _ c _=>3-(intOf c).toNat)
 case atStart=>exact⟨0,rfl,by omega,fun q=>by omega,HX2,Only.refl _ _⟩
 case round =>
  obtain⟨i,rfl,hi,hin,hm,hon⟩:=hrel
  have hbw:Below w.heap.size w wr:=HB12.out.trans (hon.out.below HB12.out.size (by simp;have:=HRB.out;omega))
  have hArr:=h.out.below hbw
  have hX:wr.heap[rb]?=some (.cells #[.int .i64 0,.int .i64 0,.int .i64 0] 55 (0,0)):=(hon.out.block rb (blk_lt HX12.out) (by simp)).trans HX12.out
  have HBW:=hide hbw
  by_cases hi3:i<3
  ·have hil:(i:Int)<3:=by omega
   by_cases hf:0≤at_+12*n∧at_+12*n+4*(i:Int)+4≤(s.size:Int)
   ·obtain⟨hf1,hf2⟩:=hf
    obtain⟨b,hb⟩:∃b:Nat,at_+12*n=(b:Int):=⟨(at_+12*n).toNat,by omega⟩
    have HG:=hide (aget_ok s (b+4*i) wr (hide hArr) (by omega))
    have ead:((b+4*i:Nat):Int)=at_+4*(3*n+(i:Int)):=by omega
    rw[ead,show rwordN ((s.bs.drop (b+4*i)).take 4)=wordA s.bs (b+4*i)from rfl]at HG
    have hwl:wordA s.bs (b+4*i)≤4294967295:=rwordN_lt4 _
    rw[hb,Int.toNat_natCast]at hm
    obtain⟨u,hu⟩:∃u,(w3V s.bs b i)[i]?=some u:=by
     match i,hi3 with
     | 0,_=>exact⟨_,rfl⟩
     | 1,_=>exact⟨_,rfl⟩
     | 2,_=>exact⟨_,rfl⟩
    have hc:=(cell_blk hm.out i).trans hu
    have hfz:=frozen_blk hm.out i
    have hst:Hid ((wr.setCell ⟨rb+1,i,none⟩ (.int .i64 (wordA s.bs (b+4*i):Int))).heap[rb+1]?=some (.cells (w3V s.bs b (i+1)) 110 (0,0))):=by
     show _=_
     rw[setCell_blk hm.out i]
     match i,hi3 with
     | 0,_=>simp[w3V]
     | 1,_=>simp[w3V]
     | 2,_=>simp[w3V]
    have hon2:Hid (Only [rb+1] W2 (wr.setCell ⟨rb+1,i,none⟩ (.int .i64 (wordA s.bs (b+4*i):Int)))):=hon.out.trans (Only.setCell wr (p:=⟨rb+1,i,none⟩) (by simp) _)
    obtain⟨wd,hwd⟩:∃wd,wordA s.bs (b+4*i)=wd:=⟨_,rfl⟩
    rw[hwd]at HG hwl hst hon2
    have hcv:∀W:World,(convert 66 3 (.int .u64 (wd:Int))).run Tryz.prog W=.ok (.int .i64 (wd:Int)) W:=fun W=>run_convUI hwl W
    have HBE:=hide hb
    clear hb ead hwd hu hm hon hin hX hArr hbw
    go_wp2_with fail
    refine HG.out.mono ?_;rintro e w' ⟨rfl,rfl⟩
    go_wp2_with fail
    go_roundw
    case rel=>exact⟨i+1,by go_num,by omega,fun _=>by omega,by rw[HBE.out,Int.toNat_natCast];exact hst,hon2⟩
    case measure=>simp[intOf]<;>omega
   ·have HG:=hide (aget_bad s (at_+4*(3*n+(i:Int))) wr (hide hArr) (by omega))
    have hnf:¬FitsJ s.size at_ n:=fun q=>by unfold FitsJ at q;omega
    obtain⟨W6,hW6,hk6,ho6⟩:=store3J hX (.int .i64 0) (.int .i64 0) (.int .i64 0)
    have d0:=cell_blk hX 0;have d1:=cell_blk hX 1;have d2:=cell_blk hX 2
    have f0:=frozen_blk hX 0;have f1:=frozen_blk hX 1;have f2:=frozen_blk hX 2
    have t0:=cell_blk hk6 0;have t1:=cell_blk hk6 1;have t2:=cell_blk hk6 2
    simp at d0 d1 d2 t0 t1 t2
    have fin:GetP s at_ n w (.returned (.tuple #[jV ⟨0,0,0⟩,.int .i64 2])) W6:=⟨HBW.out.trans (ho6.below HBW.out.size (by simp;have:=HRB.out;omega)),.inr ⟨hnf,rfl⟩⟩
    have FIN:=hide fin;have HW6:=hide hW6
    clear hf hW6 hk6 ho6 fin hnf hm hon hin hX hArr hbw
    go_wp2_with fail
    refine HG.out.mono ?_;rintro e w' ⟨rfl,rfl⟩
    go_wp2_with fail
    rw[HW6.out]
    refine bodyPost_ret (v:=.tuple #[jV ⟨0,0,0⟩,.int .i64 2]) (by unfold jV;simp[results,Tryz.results15,go_sem,t0,t1,t2]) rfl ?_
    exact FIN.out
  ·have hi4:i=3:=by omega
   subst hi4
   obtain⟨hf1,hf2⟩:=hin (by omega)
   have hfit:FitsJ s.size at_ n:=⟨h0,h1,h2,hf1,by omega⟩
   obtain⟨b,hb⟩:∃b:Nat,(at_+12*n).toNat=b:=⟨_,rfl⟩
   rw[hb]at hm
   have l0:wr.cell? ⟨rb+1,0,none⟩=some (.int .i64 (wordA s.bs b:Int)):=cell_blk hm.out 0
   have l1:wr.cell? ⟨rb+1,1,none⟩=some (.int .i64 (wordA s.bs (b+4):Int)):=cell_blk hm.out 1
   have l2:wr.cell? ⟨rb+1,2,none⟩=some (.int .i64 (wordA s.bs (b+8):Int)):=cell_blk hm.out 2
   obtain⟨W6,hW6,hk6,ho6⟩:=store3J hX (.int .i64 (wordA s.bs b:Int)) (.int .i64 (wordA s.bs (b+4):Int)) (.int .i64 (wordA s.bs (b+8):Int))
   have d0:=cell_blk hX 0;have d1:=cell_blk hX 1;have d2:=cell_blk hX 2
   have f0:=frozen_blk hX 0;have f1:=frozen_blk hX 1;have f2:=frozen_blk hX 2
   have t0:=cell_blk hk6 0;have t1:=cell_blk hk6 1;have t2:=cell_blk hk6 2
   simp at d0 d1 d2 t0 t1 t2
   have fin:GetP s at_ n w (.returned (.tuple #[jV (jmpAt s.bs b),.int .i64 0])) W6:=⟨HBW.out.trans (ho6.below HBW.out.size (by simp;have:=HRB.out;omega)),.inl ⟨hfit,by rw[hb]⟩⟩
   unfold jmpAt at fin
   have FIN:=hide fin;have HW6:=hide hW6
   generalize wordA s.bs b=x0 at *
   generalize wordA s.bs (b+4)=x1 at *
   generalize wordA s.bs (b+8)=x2 at *
   clear hW6 hk6 ho6 fin hm hon hin hX hArr hbw hb hfit hi3
   go_wp2_with fail
   rw[HW6.out]
   refine bodyPost_ret (v:=.tuple #[jV ⟨x0,x1,x2⟩,.int .i64 0]) (by unfold jV;simp[results,Tryz.results15,go_sem,t0,t1,t2]) rfl ?_
   exact FIN.out
end Go.Proofs.YtomppgohoplemaaGreat
namespace Go.Proofs.YtomppgohoplemaaGreat
open Go.RowKit Go.Maps
theorem sget_any (s:ArS) (at_ n:Int) (w:World) (h:Hid (Ar w s)) (hat:-9223372036854775808≤at_) :
  Calls Tryz.prog 15 #[.pointer (some ⟨s.ag,0,none⟩),.int .i64 at_,.int .i64 n] w (GetP s at_ n w):=by
 by_cases hx:n<0∨(s.size:Int)<n∨(s.size:Int)<at_
 ·exact sget_out s at_ n w h hx
 ·exact sget_in s at_ n w h (by omega) (by omega) (by omega) hat
theorem snew_nil (f:Int) (w:World) :
  Calls Tryz.prog 7 #[.pointer none,.int .i64 f] w fun e w'=>e=.returned (.tuple #[.pointer none,.int .i64 12])∧Hid (Below w.heap.size w w') :=
 new_err _ f w ([],0,12) (hide (heights_of _ f w _ (hide (run_nil f w)))) (by simp)
def jeq (r s:Jmp):Bool:=decide (r.dest=s.dest)&&(decide (r.keep=s.keep)&&decide (r.h=s.h))
theorem jeq_self (r:Jmp):jeq r r=true:=by simp[jeq]
set_option maxRecDepth 100000 in
theorem run_eql_jmp (r s:Jmp) (W:World):(binOp .eql 55 (jV r) (jV s)).run Tryz.prog W=.ok (.bool (jeq r s)) W:=by
 have hS:Tryz.prog.underlying 55=some (.struct (Tryz.prog.fieldsOf 55)):=by kernel_rfl
 have hp:Tryz.prog.stoodInHeld 55=false:=by kernel_rfl
 unfold jV
 rw[run_eql_struct,show (10000:Nat)=9999+1 from rfl,run_equalIn_agg W 9999 55 _ _ hS hp]
 simp only[Program.fieldsOf,Tryz.underlying55]
 obtain⟨r1,r2,r3⟩:=r
 obtain⟨s1,s2,s3⟩:=s
 unfold jeq
 dsimp only
 by_cases h1:r1=s1
 ·subst h1
  by_cases h2:r2=s2
  ·subst h2
   by_cases h3:r3=s3
   ·subst h3
    go_simp
   ·have h3':¬((r3:Int)=(s3:Int)):=by omega
    go_simp
  ·have h2':¬((r2:Int)=(s2:Int)):=by omega
   go_simp
 ·have h1':¬((r1:Int)=(s1:Int)):=by omega
  go_simp
def exL18:List XI:=[⟨2,64,0,0,[]⟩,⟨12,0,0,0,[]⟩,⟨11,0,0,0,[]⟩,⟨11,0,0,0,[]⟩]
def exM18:Mo:=⟨[⟨[],[]⟩],[],[⟨0,⟨[],exL18⟩⟩],-1,[],[],[],-1,[],[]⟩
theorem ex18_fit:(unfitP exM18).2=0:=by decide +kernel
theorem ex18_err:errB ⟨[],exL18⟩=0:=by decide +kernel
theorem ex18_run:(runP exM18 0).2.2=0:=by decide +kernel
theorem ex18_jump0:((sideE exM18 0).jumps (sideE exM18 0).l.length 0 (1,0)).map (fun d=>(d.dest,d.keep,d.h))=some (3,0,0):=by decide +kernel
theorem ex18_jump:((sideE exM18 0).jumps (sideE exM18 0).l.length 0 (1,0))=some ⟨3,0,0⟩:=by
 have h:=ex18_jump0
 cases hc:(sideE exM18 0).jumps (sideE exM18 0).l.length 0 (1,0) with
 | none=>rw[hc]at h;cases h
 | some d =>
  rw[hc]at h
  obtain⟨a,b,c⟩:=d
  simp at h
  obtain⟨rfl,rfl,rfl⟩:=h
  rfl
def exI18:List XL:=[⟨2,64,0,0,noSl⟩,⟨12,0,0,0,noSl⟩,⟨11,0,0,0,noSl⟩,⟨11,0,0,0,noSl⟩]
def exS18:List SgL:=[⟨noSl,noSl⟩]
def exB18 (a:Nat):BdL:=⟨noSl,⟨some ⟨a,0,none⟩,4,exI18⟩⟩
def exF18 (a:Nat):List FuL:=[⟨0,exB18 a⟩]
def ym18 (a0 a1 a2:Nat):MoL:=⟨⟨some ⟨a0,0,none⟩,1,exS18⟩,noSl,⟨some ⟨a2,0,none⟩,1,exF18 a1⟩,-1,noSl,noSl,noSl,-1,noSl,noSl⟩
theorem ym18_g (a0 a1 a2:Nat):(ym18 a0 a1 a2).g=exM18:=rfl
theorem ym18_in {w:World} {a0 a1 a2:Nat} (h0:w.heap[a0]?=some (.cells #[.slice none 0 0,.slice none 0 0] 65 (0,0)))
  (h1:w.heap[a1]?=some (.cells #[.int .i64 2,.int .u64 64,.int .u64 0,.int .i64 0,.slice none 0 0,.int .i64 12,.int .u64 0,.int .u64 0,.int .i64 0,.slice none 0 0,.int .i64 11,.int .u64 0,.int .u64 0,.int .i64 0,.slice none 0 0,.int .i64 11,.int .u64 0,.int .u64 0,.int .i64 0,.slice none 0 0] 69 (0,0)))
  (h2:w.heap[a2]?=some (.cells #[.int .i64 0,.slice none 0 0,.slice (some ⟨a1,0,none⟩) 4 4] 53 (0,0))):MoIn w (ym18 a0 a1 a2):=by
 have hins:Row w 5 XL.cs ⟨some ⟨a1,0,none⟩,4,exI18⟩:=row_blk h1 (fun _=>rfl) (by decide) (by omega)
 have hbd:BdIn w (exB18 a1):=⟨row_none,hins,fun x hx=>by
  simp[exB18,exI18]at hx
  rcases hx with rfl|rfl|rfl<;>exact row_none,fun x hx=>by
  simp[exB18,exI18]at hx
  rcases hx with rfl|rfl|rfl<;>exact⟨by decide,by decide,by decide,by decide,by decide,by decide,fun n hn=>by simp[XL.x,noSl]at hn⟩⟩
 refine⟨row_blk h0 (fun _=>rfl) (by simp[exS18]) (by omega),fun z hz=>?_,row_none,fun x hx=>by simp[ym18,noSl]at hx,row_blk h2 (fun _=>rfl) (by simp[exF18]) (by omega),fun y hy=>?_,by unfold I64;simp[ym18],row_none,fun x hx=>by simp[ym18,noSl]at hx,row_none,fun x hx=>by simp[ym18,noSl]at hx,row_none,fun x hx=>by simp[ym18,noSl]at hx,by unfold I64;simp[ym18],row_none,fun x hx=>by simp[ym18,noSl]at hx,row_none,fun x hx=>by simp[ym18,noSl]at hx⟩
 ·simp[ym18,exS18]at hz
  subst hz
  exact⟨row_none,row_none⟩
 ·simp[ym18,exF18]at hy
  subst hy
  exact⟨by unfold I64;simp,hbd⟩
theorem ym18_sm (a0 a1 a2:Nat):MoSm (ym18 a0 a1 a2):=by
 have hb:BdLen 151 61 110 (exB18 a1):=⟨by simp[exB18,noSl],by simp[exB18,exI18],fun x hx=>by
  simp[exB18,exI18]at hx
  rcases hx with rfl|rfl|rfl<;>simp[noSl]⟩
 refine⟨by simp[ym18,exS18],fun z hz=>?_,by simp[ym18,noSl],fun x hx=>by simp[ym18,noSl]at hx,by simp[ym18,exF18],fun y hy=>?_,by simp[ym18,noSl],by simp[ym18,noSl],by simp[ym18,noSl],fun x hx=>by simp[ym18,noSl]at hx,by simp[ym18,noSl],fun x hx=>by simp[ym18,noSl]at hx,by simp[ym18,noSl],fun x hx=>by simp[ym18,noSl]at hx⟩
 ·simp[ym18,exS18]at hz
  subst hz;simp[noSl]
 ·simp[ym18,exF18]at hy
  subst hy;exact hb
theorem new18 {g:Nat} {m2:MoL} {w:World} {ml:Int} (hM:Hid (MoAt w g m2)) (hg:Hid (m2.g=exM18)) (hs:Hid (MoSm m2)) (hml:Hid (w.cell? ⟨0,0,none⟩=some (.int .i64 ml))) :
  Calls Tryz.prog 7 #[.pointer (some ⟨g,0,none⟩),.int .i64 (0:Int)] w (NewP (sideE exM18 0) w):=by
 have h:=run_any g m2 0 w ml hM (hide hs.out.sz) (hide hs.out.bd) hml
 have hf:m2.g.funcs=[⟨0,⟨[],exL18⟩⟩]:=by rw[hg.out];rfl
 have hl:m2.funcs.l.map FuL.g=[⟨0,⟨[],exL18⟩⟩]:=hf
 obtain⟨y,hy,hyg⟩:∃y,m2.funcs.l[0]?=some y∧y.g=⟨0,⟨[],exL18⟩⟩:=by
  cases hc:m2.funcs.l with
  | nil=>rw[hc]at hl;simp at hl
  | cons y t=>rw[hc]at hl;exact⟨y,rfl,(List.cons.inj hl).1⟩
 have hb:y.bd.g=⟨[],exL18⟩:=congrArg MFu.bd hyg
 have h2:=new_ok g m2 0 y w hM hs (hide (by rw[hg.out];exact ex18_fit)) hy (hide (by rw[hb];exact ex18_err)) (hide (by rw[hg.out];exact ex18_run)) (hide (heights_of _ 0 w _ (hide h)))
 rw[hg.out]at h2
 exact h2
end Go.Proofs.YtomppgohoplemaaGreat
namespace Go.Proofs.YtomppgohoplemaaGreat
open Go.RowKit Go.Maps
set_option maxRecDepth 100000 in
set_option maxHeartbeats 3200000 in
theorem awake18 (w:World) (ml:Int) (hml:Hid (w.cell? ⟨0,0,none⟩=some (.int .i64 ml))):Calls Tryz.prog 6 #[] w fun e w'=>e=.returned (.bool true)∧Hid (Below w.heap.size w w'):=by
 obtain⟨a,ha⟩:∃a,w.heap.size=a:=⟨_,rfl⟩
 obtain⟨W1,hW1,hb1,hx1,hs1⟩:=box_new w #[.slice none 0 0,.slice none 0 0] 65
 rw[ha]at hx1 hs1
 obtain⟨W2,hW2,hb2,hx2,hs2⟩:=box_new W1 #[.int .i64 2,.int .u64 64,.int .u64 0,.int .i64 0,.slice none 0 0,.int .i64 12,.int .u64 0,.int .u64 0,.int .i64 0,.slice none 0 0,.int .i64 11,.int .u64 0,.int .u64 0,.int .i64 0,.slice none 0 0,.int .i64 11,.int .u64 0,.int .u64 0,.int .i64 0,.slice none 0 0] 69
 rw[hs1]at hx2 hs2
 obtain⟨W3,hW3,hb3,hx3,hs3⟩:=box_new W2 #[.int .i64 0,.slice none 0 0,.slice (some ⟨a+1,0,none⟩) 4 4] 53
 rw[hs2]at hx3 hs3
 obtain⟨W4,hW4,hb4,hx4,hs4⟩:=box_new W3 #[.slice (some ⟨a,0,none⟩) 1 1,.slice none 0 0,.slice (some ⟨a+1+1,0,none⟩) 1 1,.int .i64 (-1),.slice none 0 0,.slice none 0 0,.slice none 0 0,.int .i64 (-1),.slice none 0 0,.slice none 0 0] 31
 rw[hs3]at hx4 hs4
 have hbw3:Below w.heap.size w W3:=(hb1.trans (hb2.mono hb1.size)).trans (hb3.mono (by omega))
 have hbw4:Below w.heap.size w W4:=hbw3.trans (hb4.mono (by omega))
 have t0:=(hb4.block a (by omega)).trans ((hb3.block a (by omega)).trans ((hb2.block a (by omega)).trans hx1))
 have t1:=(hb4.block (a+1) (by omega)).trans ((hb3.block (a+1) (by omega)).trans hx2)
 have t2:=(hb4.block (a+1+1) (by omega)).trans hx3
 have hin:=ym18_in t0 t1 t2
 have HIN:=hide hin;have HX:=hide hx4
 have HA:=hide ha;have HW1:=hide hW1;have HW2:=hide hW2;have HW3:=hide hW3;have HW4:=hide hW4
 have HS1:=hide hs1;have HS2:=hide hs2;have HS3:=hide hs3;have HS4:=hide hs4;have HB:=hide hbw4
 clear ha hW1 hb1 hx1 hs1 hW2 hb2 hx2 hs2 hW3 hb3 hx3 hs3 hW4 hb4 hx4 hs4 hbw3 hbw4 t0 t1 t2 hin
 go_enter Tryz.func6,Tryz.ntmps6
 go_upto_region 2 with fail
 simp only[HA.out,HW1.out,HW2.out,HW3.out,HW4.out]
 have c0:=cell_blk HX.out 0
 have c1:=cell_blk HX.out 1
 have c2:=cell_blk HX.out 2
 have c3:=cell_blk HX.out 3
 have c4:=cell_blk HX.out 4
 have c5:=cell_blk HX.out 5
 have c6:=cell_blk HX.out 6
 have c7:=cell_blk HX.out 7
 have c8:=cell_blk HX.out 8
 have c9:=cell_blk HX.out 9
 simp at c0 c1 c2 c3 c4 c5 c6 c7 c8 c9
 have hml4:Hid (W4.cell? ⟨0,0,none⟩=some (.int .i64 ml)):=(HB.out.cell (World.block_lt_of_cell? w _ hml.out)).trans hml.out
 have HTO:Hid (Calls Tryz.prog 8 #[.agg #[.slice (some ⟨a,0,none⟩) 1 1,.slice none 0 0,.slice (some ⟨a+1+1,0,none⟩) 1 1,.int .i64 (-1),.slice none 0 0,.slice none 0 0,.slice none 0 0,.int .i64 (-1),.slice none 0 0,.slice none 0 0]] W4 (ToM (ym18 a (a+1) (a+1+1)) W4)) :=
  lto_any (ym18 a (a+1) (a+1+1)) W4 HIN (hide (ym18_sm _ _ _))
 go_wp2_with fail
 refine HTO.out.mono ?_;rintro e w1 ⟨g1,m1,rfl,hM1,hg1,hS1,hb1⟩
 have hml1:Hid (w1.cell? ⟨0,0,none⟩=some (.int .i64 ml)):=(hb1.out.cell (World.block_lt_of_cell? W4 _ hml4.out)).trans hml4.out
 have hN:=new18 hM1 (hide (hg1.out.trans (ym18_g _ _ _))) hS1 hml1
 have HN:=hide hN
 clear hN c0 c1 c2 c3 c4 c5 c6 c7 c8 c9
 go_wp2_with fail
 refine HN.out.mono ?_;rintro e w2 ⟨W0,mk,vo,nj,nc,nk,rfl,hsg,hB0,hme,hmo,hBr⟩
 obtain⟨sg,hsgd⟩:∃sg,mk.sg=sg:=⟨_,rfl⟩
 rw[hsgd]at hsg ⊢
 have HL:=hide (slabel_any w2 hBr sg hsg 1 0 (by omega) (by omega) ⟨3,0,0⟩ ex18_jump)
 clear hsg
 go_upto_region 3 with fail
 go_wp2_with fail
 refine HL.out.mono ?_;rintro e w3 ⟨rfl,hb3⟩
 obtain⟨W5,hW5,hb5,hx5,hs5⟩:=box_new w3 #[.int .i64 3,.int .i64 0,.int .i64 0] 55
 have d0:=cell_blk hx5 0
 have d1:=cell_blk hx5 1
 have d2:=cell_blk hx5 2
 simp at d0 d1 d2
 have HW5:=hide hW5;have HB5:=hide hb5
 have HE:=fun V=>run_eql_jmp ⟨3,0,0⟩ ⟨3,0,0⟩ V
 simp only[jeq_self,jV]at HE
 have hw2:=hB0.out
 clear hx5 hs5 hW5 hb5
 unfold jV
 go_upto_region 4 with fail
 rw[HW5.out]
 go_wp2_with fail
 go_ret
 have h43:Below W4.heap.size W4 W5:=((hb1.out.trans (hw2.mono hb1.out.size)).trans (hBr.out.low.mono (Nat.le_trans hb1.out.size hw2.size))).trans ((hb3.out.trans (HB5.out.mono hb3.out.size)).mono (Nat.le_trans hb1.out.size (Nat.le_trans hw2.size hBr.out.low.size)))
 exact⟨rfl,hide (HB.out.trans (h43.mono HB.out.size))⟩
end Go.Proofs.YtomppgohoplemaaGreat
namespace Go.Proofs.YtomppgohoplemaaGreat
open Go.RowKit Go.Maps
def FitsC (a k:Int):Prop:=0≤k∧k≤30∧a≤30∧0≤a+12*k∧a+12*k+12≤30
theorem GetP.one {s:ArS} {at_ n:Int} {w w':World} {e:Ending} (h:GetP s at_ n w e w') :
  ∃(d:Jmp) (er:Int),e=.returned (.tuple #[jV d,.int .i64 er])∧Hid (Below w.heap.size w w')∧Hid ((FitsJ s.size at_ n∧er=0)∨(¬FitsJ s.size at_ n∧er=2)):=by
 obtain⟨hb,h1|h1⟩:=h
 ·exact⟨_,0,h1.2,hb,hide (.inl ⟨h1.1,rfl⟩)⟩
 ·exact⟨_,2,h1.2,hb,hide (.inr ⟨h1.1,rfl⟩)⟩
theorem box_jmp (w:World) (d:Jmp):∃W,w.alloc (.cells #[.int .i64 (d.dest:Int),.int .i64 (d.keep:Int),.int .i64 (d.h:Int)] 55)=W∧Below w.heap.size w W:=by
 obtain⟨W,hW,hb,_,_⟩:=box_new w #[.int .i64 (d.dest:Int),.int .i64 (d.keep:Int),.int .i64 (d.h:Int)] 55
 exact⟨W,hW,hb⟩
set_option maxRecDepth 100000 in
set_option maxHeartbeats 6400000 in
theorem SideNone_walk (a k:Int) (w:World) (wa:(Lit.int .i64 a).wf=true) (wk:(Lit.int .i64 k).wf=true) (hP:∃m,w.cell? ⟨0,0,none⟩=some (.int .i64 m)) :
  Calls Tryz.prog 4 #[.int .i64 a,.int .i64 k] w fun e w'=>e=.returned (.bool true)∧Below w.heap.size w w':=by
 obtain⟨ml,hml⟩:=hP
 have HML:=hide hml
 have ha:-9223372036854775808≤a∧a≤9223372036854775807:=by simp[Lit.wf,IntKind.min,IntKind.max,IntKind.signed,IntKind.bits]at wa;omega
 have hk:-9223372036854775808≤k∧k≤9223372036854775807:=by simp[Lit.wf,IntKind.min,IntKind.max,IntKind.signed,IntKind.bits]at wk;omega
 obtain⟨ha1,ha2⟩:=ha
 obtain⟨hk1,hk2⟩:=hk
 clear hml
 go_enter Tryz.func4,Tryz.ntmps4
 go_wp2_with fail
 refine(awake18 w ml HML).mono ?_;rintro e w1 ⟨rfl,HB1⟩
 go_wp2_with fail
 refine(slabel_nil a k _).mono ?_;rintro e w2 ⟨rfl,hb2⟩
 obtain⟨W2,hW2,hc2,_,_⟩:=box_new w2 #[.int .i64 0,.int .i64 0,.int .i64 0] 55
 have HB2:Hid (Below w.heap.size w W2):=hide (HB1.out.trans ((hb2.out.trans (hc2.mono hb2.out.size)).mono HB1.out.size))
 have HW2:=hide hW2
 clear HB1 hb2 hc2 hW2
 unfold jV
 go_upto_region 5 with fail
 rw[HW2.out]
 clear HW2
 go_wp2_with fail
 refine(sskip_nil a _).mono ?_;rintro e w3 ⟨rfl,rfl⟩
 go_wp2_with fail
 refine(sput_nil _ _).mono ?_;rintro e w3 ⟨rfl,rfl⟩
 go_wp2_with fail
 refine(anew_any 30 _ (by omega)).mono ?_;rintro e w3 ⟨s,rfl,hA,hN,hb3⟩
 have hsz:s.size=30:=hN.out.size
 have HB3:Hid (Below w.heap.size w w3):=hide (HB2.out.trans (hb3.out.mono HB2.out.size))
 have HSZ:=hide hsz
 clear hsz HB2 hN hb3
 go_wp2_with fail
 refine(sget_any s 0 (-1) _ hA (by omega)).mono ?_;intro e w4 hG
 obtain⟨d,er,rfl,hb4,hx⟩:=hG.one
 obtain rfl:er=2:=by
  rcases hx.out with ⟨hf,_⟩|⟨_,hf⟩
  ·unfold FitsJ at hf;omega
  ·exact hf
 clear hG hx
 obtain⟨W4,hW4,hc4⟩:=box_jmp w4 d
 have hb34:=hb4.out.trans (hc4.mono hb4.out.size)
 have HB4:Hid (Below w.heap.size w W4):=hide (HB3.out.trans (hb34.mono HB3.out.size))
 have HA4:=hide (hA.out.below hb34)
 have HW4:=hide hW4
 clear HB3 hb4 hc4 hW4 hb34 hA
 unfold jV
 go_upto_region 9 with fail
 rw[HW4.out]
 clear HW4
 go_wp2_with fail
 refine(sget_any s a k _ HA4 ha1).mono ?_;intro e w5 hG
 obtain⟨d2,er,rfl,hb5,hx⟩:=hG.one
 clear hG
 obtain⟨W5,hW5,hc5⟩:=box_jmp w5 d2
 have HB5:Hid (Below w.heap.size w W5):=hide (HB4.out.trans ((hb5.out.trans (hc5.mono hb5.out.size)).mono HB4.out.size))
 have HW5:=hide hW5
 clear HB4 hb5 hc5 hW5 HA4
 unfold jV
 go_upto_region 10 with fail
 rw[HW5.out]
 clear HW5
 have hx':=hx.out
 rw[HSZ.out]at hx'
 unfold FitsJ at hx'
 clear hx HSZ
 have go:(FitsC a k→er=0)∧(¬FitsC a k→er=2):=by
  unfold FitsC
  rcases hx' with ⟨h1,h2⟩|⟨h1,h2⟩
  ·exact⟨fun _=>h2,fun h=>absurd h1 (by omega)⟩
  ·exact⟨fun h=>absurd h (by omega),fun _=>h2⟩
 obtain⟨g1,g2⟩:=go
 clear hx'
 unfold FitsC at g1 g2
 have cases6:k<0∨(¬k<0∧30<k)∨(¬k<0∧¬30<k∧30<a)∨(¬k<0∧¬30<k∧¬30<a∧a < -(12*k))∨(¬k<0∧¬30<k∧¬30<a∧¬a < -(12*k)∧30<a+12*k+12)∨(¬k<0∧¬30<k∧¬30<a∧¬a < -(12*k)∧¬30<a+12*k+12):=by omega
 rcases cases6 with c1|⟨c1,c2⟩|⟨c1,c2,c3⟩|⟨c1,c2,c3,c4⟩|⟨c1,c2,c3,c4,c5⟩|⟨c1,c2,c3,c4,c5⟩
 rotate_right
 ·obtain rfl:=g1 (by omega)
  clear g1 g2
  go_wp2_with fail
  refine(snew_nil a _).mono ?_;rintro e w6 ⟨rfl,hb6⟩
  have HB6:Hid (Below w.heap.size w w6):=hide (HB5.out.trans (hb6.out.mono HB5.out.size))
  clear HB5 hb6
  go_wp2_with fail
  refine(scount_nil a _).mono ?_;rintro e w7 ⟨rfl,rfl⟩
  go_wp2_with fail
  refine(slen_nil _).mono ?_;rintro e w7 ⟨rfl,rfl⟩
  go_wp2_with fail
  go_ret
  exact⟨rfl,HB6.out⟩
 all_goals
  obtain rfl:=g2 (by omega)
  clear g1 g2
  go_wp2_with fail
  refine(snew_nil a _).mono ?_;rintro e w6 ⟨rfl,hb6⟩
  have HB6:Hid (Below w.heap.size w w6):=hide (HB5.out.trans (hb6.out.mono HB5.out.size))
  clear HB5 hb6
  go_wp2_with fail
  refine(scount_nil a _).mono ?_;rintro e w7 ⟨rfl,rfl⟩
  go_wp2_with fail
  refine(slen_nil _).mono ?_;rintro e w7 ⟨rfl,rfl⟩
  go_wp2_with fail
  go_ret
  have q:=c1
  refine⟨?_,HB6.out⟩
  first
  | rfl
  | (
    have q:¬(a+12*k+12≤30):=by omega
    simp[q])
end Go.Proofs.YtomppgohoplemaaGreat
