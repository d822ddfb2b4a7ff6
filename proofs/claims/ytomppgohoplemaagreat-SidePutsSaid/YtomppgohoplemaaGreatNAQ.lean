import Derived.Test.YtomppgohoplemaaGreatNAP
import Derived.Test.YtomppgohoplemaaGreatNAI
import Derived.Test.YtomppgohoplemaaGreatNAH
import Derived.Test.YtomppgohoplemaaGreatShelf
set_option linter.unusedVariables false
namespace Go.Proofs.YtomppgohoplemaaGreat
open Go.RowKit
theorem any_take {α:Type} {p:α→Bool} {l:List α} {k:Nat} {x:α} (h:l[k]?=some x) (h0:(l.take k).any p=false):(l.take (k+1)).any p=p x:=by
 rw[List.take_add_one,h,List.any_append,h0];simp
theorem any_at {α:Type} {p:α→Bool} {l:List α} {k:Nat} {x:α} (h:l[k]?=some x) (hp:p x=true):l.any p=true:=List.any_eq_true.2 ⟨x,List.mem_of_getElem? h,hp⟩
set_option maxRecDepth 100000 in
set_option maxHeartbeats 1600000 in
theorem idx_ex (s:Sl MEx) (n:Nat) (G:FuncId) (cp:Array Value) (p:MEx→Bool) (w:World) (hr:Hid (Row w 3 MEx.cs s)) (hn:Hid (s.l.length=n)) (hl:n≤1000000)
  (hcf:∀(x:Value) (W:World),Sem.run Tryz.prog (callFunc G (#[x]++cp)) W=.ok (.enter G (#[x]++cp)) W)
  (hG:Hid (∀(k:Nat) (x:MEx),s.l[k]?=some x→∀W,Below w.heap.size w W→Calls Tryz.prog G (#[.agg #[.string ⟨x.name.toArray⟩,.int .i64 x.kind,.int .i64 x.ix]]++cp) W fun e w'=>e=.returned (.bool (p x))∧Hid (Below W.heap.size W w'))) :
  Calls Tryz.prog 115 #[.slice s.at_ n s.cap,.func (.func G) #[] cp] w fun e w'=>∃i:Int,e=.returned (.int .i64 i)∧-1≤i∧Hid (decide (0≤i)=s.l.any p)∧Hid (Below w.heap.size w w'):=by
 go_enter Tryz.func115,Tryz.ntmps115
 go_wp2_with fail
 go_loopw [4,5,8] (fun r v i w1=>∃k:Nat,r=.int .i64 0∧i=.int .i64 k∧k≤n∧Hid (Below w.heap.size w w1)∧Hid ((s.l.take k).any p=false)) (fun _ _ i _=>n-(intOf i).toNat)
 case atStart=>exact⟨0,rfl,rfl,by omega,Below.refl _ _,by show _=_;simp⟩
 case round =>
  obtain⟨k,rfl,rfl,hk,hbw,hin⟩:=hrel
  by_cases hlt:k<n
  ·obtain⟨x,hx⟩:∃x,s.l[k]?=some x:=⟨_,List.getElem?_eq_getElem (by rw[hn.out];exact hlt)⟩
   obtain⟨ad,ha,_,k0,kj⟩:=(hr.out.below hbw.out).at_ (fun _=>rfl) hx
   rw[ha]
   have q0:=k0 _ rfl (by omega)
   have q1:=kj 1 (by omega) (by omega) _ rfl
   have q2:=kj 2 (by omega) (by omega) _ rfl
   have HC:=hide (hG.out k x hx wr hbw.out)
   have hany:=hide (any_take hx hin.out)
   have HX:=hide hx
   clear k0 kj ha hx
   cases hq:p x with
   | true =>
    rw[hq]at HC
    have HQ:=hide hq
    clear hq
    go_wp2_with fail
    refine HC.out.mono ?_;rintro e w2 ⟨rfl,h2⟩
    go_wp2_with fail
    go_ret
    exact⟨k,rfl,by omega,by show _=_;rw[any_at HX.out HQ.out];simp,hbw.out.trans (h2.out.mono hbw.out.size)⟩
   | false =>
    rw[hq]at HC hany
    clear hq
    go_wp2_with fail
    refine HC.out.mono ?_;rintro e w2 ⟨rfl,h2⟩
    have HB2:Hid (Below w.heap.size w w2):=hbw.out.trans (h2.out.mono hbw.out.size)
    clear h2 HC q0 q1 q2
    go_wp2_with fail
    go_roundw
    case rel=>exact⟨k+1,rfl,by go_num,by omega,HB2,hany⟩
    case measure=>simp[intOf]<;>omega
  ·have hnone:Hid (s.l.any p=false):=by
    have:=hin.out
    rw[List.take_of_length_le (by rw[hn.out];omega)]at this
    exact this
   clear hin
   go_wp2_with fail
   go_ret
   exact⟨-1,rfl,by omega,by show _=_;rw[hnone.out];rfl,hbw⟩
theorem has_ex (s:Sl MEx) (n:Nat) (G:FuncId) (cp:Array Value) (p:MEx→Bool) (w:World) (hr:Hid (Row w 3 MEx.cs s)) (hn:Hid (s.l.length=n)) (hl:n≤1000000)
  (hcf:∀(x:Value) (W:World),Sem.run Tryz.prog (callFunc G (#[x]++cp)) W=.ok (.enter G (#[x]++cp)) W)
  (hG:Hid (∀(k:Nat) (x:MEx),s.l[k]?=some x→∀W,Below w.heap.size w W→Calls Tryz.prog G (#[.agg #[.string ⟨x.name.toArray⟩,.int .i64 x.kind,.int .i64 x.ix]]++cp) W fun e w'=>e=.returned (.bool (p x))∧Hid (Below W.heap.size W w'))) :
  Calls Tryz.prog 89 #[.slice s.at_ n s.cap,.func (.func G) #[] cp] w fun e w'=>e=.returned (.bool (s.l.any p))∧Hid (Below w.heap.size w w'):=by
 have H:=hide (idx_ex s n G cp p w hr hn hl hcf hG)
 go_enter Tryz.func89,Tryz.ntmps89
 go_wp2_with fail
 refine H.out.mono ?_;rintro e w' ⟨i,rfl,hi,hd,h2⟩
 go_wp2_with fail
 go_ret
 exact⟨by rw[←hd.out];rfl,h2⟩
set_option maxRecDepth 100000 in
set_option maxHeartbeats 1600000 in
theorem idx_ints (s:Sl Int) (n:Nat) (G:FuncId) (cp:Array Value) (p:Int→Bool) (w:World) (hr:Hid (Row w 1 iD s)) (hn:Hid (s.l.length=n)) (hl:n≤1000000)
  (hcf:∀(x:Value) (W:World),Sem.run Tryz.prog (callFunc G (#[x]++cp)) W=.ok (.enter G (#[x]++cp)) W)
  (hG:Hid (∀(k:Nat) (x:Int),s.l[k]?=some x→∀W,Below w.heap.size w W→Calls Tryz.prog G (#[.int .i64 x]++cp) W fun e w'=>e=.returned (.bool (p x))∧Hid (Below W.heap.size W w'))) :
  Calls Tryz.prog 116 #[.slice s.at_ n s.cap,.func (.func G) #[] cp] w fun e w'=>∃i:Int,e=.returned (.int .i64 i)∧-1≤i∧Hid (decide (0≤i)=s.l.any p)∧Hid (Below w.heap.size w w'):=by
 go_enter Tryz.func116,Tryz.ntmps116
 go_wp2_with fail
 go_loopw [4,5,8] (fun r v i w1=>∃k:Nat,r=.int .i64 0∧i=.int .i64 k∧k≤n∧Hid (Below w.heap.size w w1)∧Hid ((s.l.take k).any p=false)) (fun _ _ i _=>n-(intOf i).toNat)
 case atStart=>exact⟨0,rfl,rfl,by omega,Below.refl _ _,by show _=_;simp⟩
 case round =>
  obtain⟨k,rfl,rfl,hk,hbw,hin⟩:=hrel
  by_cases hlt:k<n
  ·obtain⟨x,hx⟩:∃x,s.l[k]?=some x:=⟨_,List.getElem?_eq_getElem (by rw[hn.out];exact hlt)⟩
   obtain⟨ad,ha,_,k0,kj⟩:=(hr.out.below hbw.out).at_ (fun _=>rfl) hx
   rw[ha]
   have q0:=k0 _ rfl (by omega)
   rw[Nat.mul_one]at q0
   have HC:=hide (hG.out k x hx wr hbw.out)
   have hany:=hide (any_take hx hin.out)
   have HX:=hide hx
   clear k0 kj ha hx
   cases hq:p x with
   | true =>
    rw[hq]at HC
    have HQ:=hide hq
    clear hq
    go_wp2_with fail
    refine HC.out.mono ?_;rintro e w2 ⟨rfl,h2⟩
    go_wp2_with fail
    go_ret
    exact⟨k,rfl,by omega,by show _=_;rw[any_at HX.out HQ.out];simp,hbw.out.trans (h2.out.mono hbw.out.size)⟩
   | false =>
    rw[hq]at HC hany
    clear hq
    go_wp2_with fail
    refine HC.out.mono ?_;rintro e w2 ⟨rfl,h2⟩
    have HB2:Hid (Below w.heap.size w w2):=hbw.out.trans (h2.out.mono hbw.out.size)
    clear h2 HC q0
    go_wp2_with fail
    go_roundw
    case rel=>exact⟨k+1,rfl,by go_num,by omega,HB2,hany⟩
    case measure=>simp[intOf]<;>omega
  ·have hnone:Hid (s.l.any p=false):=by
    have:=hin.out
    rw[List.take_of_length_le (by rw[hn.out];omega)]at this
    exact this
   clear hin
   go_wp2_with fail
   go_ret
   exact⟨-1,rfl,by omega,by show _=_;rw[hnone.out];rfl,hbw⟩
theorem has_ints (s:Sl Int) (n:Nat) (G:FuncId) (cp:Array Value) (p:Int→Bool) (w:World) (hr:Hid (Row w 1 iD s)) (hn:Hid (s.l.length=n)) (hl:n≤1000000)
  (hcf:∀(x:Value) (W:World),Sem.run Tryz.prog (callFunc G (#[x]++cp)) W=.ok (.enter G (#[x]++cp)) W)
  (hG:Hid (∀(k:Nat) (x:Int),s.l[k]?=some x→∀W,Below w.heap.size w W→Calls Tryz.prog G (#[.int .i64 x]++cp) W fun e w'=>e=.returned (.bool (p x))∧Hid (Below W.heap.size W w'))) :
  Calls Tryz.prog 92 #[.slice s.at_ n s.cap,.func (.func G) #[] cp] w fun e w'=>e=.returned (.bool (s.l.any p))∧Hid (Below w.heap.size w w'):=by
 have H:=hide (idx_ints s n G cp p w hr hn hl hcf hG)
 go_enter Tryz.func92,Tryz.ntmps92
 go_wp2_with fail
 refine H.out.mono ?_;rintro e w' ⟨i,rfl,hi,hd,h2⟩
 go_wp2_with fail
 go_ret
 exact⟨by rw[←hd.out];rfl,h2⟩
set_option maxRecDepth 100000 in
set_option maxHeartbeats 1600000 in
theorem idx_ins (s:Sl XL) (n:Nat) (G:FuncId) (cp:Array Value) (p:XL→Bool) (w:World) (hr:Hid (Row w 5 XL.cs s)) (hn:Hid (s.l.length=n)) (hl:n≤1000000)
  (hcf:∀(x:Value) (W:World),Sem.run Tryz.prog (callFunc G (#[x]++cp)) W=.ok (.enter G (#[x]++cp)) W)
  (hG:Hid (∀(k:Nat) (x:XL),s.l[k]?=some x→∀W,Below w.heap.size w W→Calls Tryz.prog G (#[.agg #[.int .i64 x.code,.int .u64 (x.a:Int),.int .u64 (x.b:Int),.int .i64 x.al,.slice x.l.at_ x.l.l.length x.l.cap]]++cp) W fun e w'=>e=.returned (.bool (p x))∧Hid (Below W.heap.size W w'))) :
  Calls Tryz.prog 117 #[.slice s.at_ n s.cap,.func (.func G) #[] cp] w fun e w'=>∃i:Int,e=.returned (.int .i64 i)∧-1≤i∧Hid (decide (0≤i)=s.l.any p)∧Hid (Below w.heap.size w w'):=by
 go_enter Tryz.func117,Tryz.ntmps117
 go_wp2_with fail
 go_loopw [4,5,8] (fun r v i w1=>∃k:Nat,r=.int .i64 0∧i=.int .i64 k∧k≤n∧Hid (Below w.heap.size w w1)∧Hid ((s.l.take k).any p=false)) (fun _ _ i _=>n-(intOf i).toNat)
 case atStart=>exact⟨0,rfl,rfl,by omega,Below.refl _ _,by show _=_;simp⟩
 case round =>
  obtain⟨k,rfl,rfl,hk,hbw,hin⟩:=hrel
  by_cases hlt:k<n
  ·obtain⟨x,hx⟩:∃x,s.l[k]?=some x:=⟨_,List.getElem?_eq_getElem (by rw[hn.out];exact hlt)⟩
   obtain⟨ad,ha,_,k0,kj⟩:=(hr.out.below hbw.out).at_ (fun _=>rfl) hx
   rw[ha]
   have q0:=k0 _ rfl (by omega)
   have q1:=kj 1 (by omega) (by omega) _ rfl
   have q2:=kj 2 (by omega) (by omega) _ rfl
   have q3:=kj 3 (by omega) (by omega) _ rfl
   have q4:=kj 4 (by omega) (by omega) _ rfl
   have HC:=hide (hG.out k x hx wr hbw.out)
   have hany:=hide (any_take hx hin.out)
   have HX:=hide hx
   clear k0 kj ha hx
   cases hq:p x with
   | true =>
    rw[hq]at HC
    have HQ:=hide hq
    clear hq
    go_wp2_with fail
    refine HC.out.mono ?_;rintro e w2 ⟨rfl,h2⟩
    go_wp2_with fail
    go_ret
    exact⟨k,rfl,by omega,by show _=_;rw[any_at HX.out HQ.out];simp,hbw.out.trans (h2.out.mono hbw.out.size)⟩
   | false =>
    rw[hq]at HC hany
    clear hq
    go_wp2_with fail
    refine HC.out.mono ?_;rintro e w2 ⟨rfl,h2⟩
    have HB2:Hid (Below w.heap.size w w2):=hbw.out.trans (h2.out.mono hbw.out.size)
    clear h2 HC q0 q1 q2 q3 q4
    go_wp2_with fail
    go_roundw
    case rel=>exact⟨k+1,rfl,by go_num,by omega,HB2,hany⟩
    case measure=>simp[intOf]<;>omega
  ·have hnone:Hid (s.l.any p=false):=by
    have:=hin.out
    rw[List.take_of_length_le (by rw[hn.out];omega)]at this
    exact this
   clear hin
   go_wp2_with fail
   go_ret
   exact⟨-1,rfl,by omega,by show _=_;rw[hnone.out];rfl,hbw⟩
theorem has_ins (s:Sl XL) (n:Nat) (G:FuncId) (cp:Array Value) (p:XL→Bool) (w:World) (hr:Hid (Row w 5 XL.cs s)) (hn:Hid (s.l.length=n)) (hl:n≤1000000)
  (hcf:∀(x:Value) (W:World),Sem.run Tryz.prog (callFunc G (#[x]++cp)) W=.ok (.enter G (#[x]++cp)) W)
  (hG:Hid (∀(k:Nat) (x:XL),s.l[k]?=some x→∀W,Below w.heap.size w W→Calls Tryz.prog G (#[.agg #[.int .i64 x.code,.int .u64 (x.a:Int),.int .u64 (x.b:Int),.int .i64 x.al,.slice x.l.at_ x.l.l.length x.l.cap]]++cp) W fun e w'=>e=.returned (.bool (p x))∧Hid (Below W.heap.size W w'))) :
  Calls Tryz.prog 96 #[.slice s.at_ n s.cap,.func (.func G) #[] cp] w fun e w'=>e=.returned (.bool (s.l.any p))∧Hid (Below w.heap.size w w'):=by
 have H:=hide (idx_ins s n G cp p w hr hn hl hcf hG)
 go_enter Tryz.func96,Tryz.ntmps96
 go_wp2_with fail
 refine H.out.mono ?_;rintro e w' ⟨i,rfl,hi,hd,h2⟩
 go_wp2_with fail
 go_ret
 exact⟨by rw[←hd.out];rfl,h2⟩
set_option maxRecDepth 100000 in
set_option maxHeartbeats 1600000 in
theorem idx_tys (s:Sl UInt8) (n:Nat) (G:FuncId) (cp:Array Value) (p:UInt8→Bool) (w:World) (hr:Hid (Row w 1 bD s)) (hn:Hid (s.l.length=n)) (hl:n≤1000000)
  (hcf:∀(x:Value) (W:World),Sem.run Tryz.prog (callFunc G (#[x]++cp)) W=.ok (.enter G (#[x]++cp)) W)
  (hG:Hid (∀(k:Nat) (x:UInt8),s.l[k]?=some x→∀W,Below w.heap.size w W→Calls Tryz.prog G (#[.int .u8 (x.toNat:Int)]++cp) W fun e w'=>e=.returned (.bool (p x))∧Hid (Below W.heap.size W w'))) :
  Calls Tryz.prog 123 #[.slice s.at_ n s.cap,.func (.func G) #[] cp] w fun e w'=>∃i:Int,e=.returned (.int .i64 i)∧-1≤i∧Hid (decide (0≤i)=s.l.any p)∧Hid (Below w.heap.size w w'):=by
 go_enter Tryz.func123,Tryz.ntmps123
 go_wp2_with fail
 go_loopw [4,5,8] (fun r v i w1=>∃k:Nat,r=.int .i64 0∧i=.int .i64 k∧k≤n∧Hid (Below w.heap.size w w1)∧Hid ((s.l.take k).any p=false)) (fun _ _ i _=>n-(intOf i).toNat)
 case atStart=>exact⟨0,rfl,rfl,by omega,Below.refl _ _,by show _=_;simp⟩
 case round =>
  obtain⟨k,rfl,rfl,hk,hbw,hin⟩:=hrel
  by_cases hlt:k<n
  ·obtain⟨x,hx⟩:∃x,s.l[k]?=some x:=⟨_,List.getElem?_eq_getElem (by rw[hn.out];exact hlt)⟩
   obtain⟨ad,ha,_,k0,kj⟩:=(hr.out.below hbw.out).at_ (fun _=>rfl) hx
   rw[ha]
   have q0:=k0 _ rfl (by omega)
   rw[Nat.mul_one]at q0
   unfold B at q0
   have HC:=hide (hG.out k x hx wr hbw.out)
   have hany:=hide (any_take hx hin.out)
   have HX:=hide hx
   clear k0 kj ha hx
   cases hq:p x with
   | true =>
    rw[hq]at HC
    have HQ:=hide hq
    clear hq
    go_wp2_with fail
    refine HC.out.mono ?_;rintro e w2 ⟨rfl,h2⟩
    go_wp2_with fail
    go_ret
    exact⟨k,rfl,by omega,by show _=_;rw[any_at HX.out HQ.out];simp,hbw.out.trans (h2.out.mono hbw.out.size)⟩
   | false =>
    rw[hq]at HC hany
    clear hq
    go_wp2_with fail
    refine HC.out.mono ?_;rintro e w2 ⟨rfl,h2⟩
    have HB2:Hid (Below w.heap.size w w2):=hbw.out.trans (h2.out.mono hbw.out.size)
    clear h2 HC q0
    go_wp2_with fail
    go_roundw
    case rel=>exact⟨k+1,rfl,by go_num,by omega,HB2,hany⟩
    case measure=>simp[intOf]<;>omega
  ·have hnone:Hid (s.l.any p=false):=by
    have:=hin.out
    rw[List.take_of_length_le (by rw[hn.out];omega)]at this
    exact this
   clear hin
   go_wp2_with fail
   go_ret
   exact⟨-1,rfl,by omega,by show _=_;rw[hnone.out];rfl,hbw⟩
theorem has_tys (s:Sl UInt8) (n:Nat) (G:FuncId) (cp:Array Value) (p:UInt8→Bool) (w:World) (hr:Hid (Row w 1 bD s)) (hn:Hid (s.l.length=n)) (hl:n≤1000000)
  (hcf:∀(x:Value) (W:World),Sem.run Tryz.prog (callFunc G (#[x]++cp)) W=.ok (.enter G (#[x]++cp)) W)
  (hG:Hid (∀(k:Nat) (x:UInt8),s.l[k]?=some x→∀W,Below w.heap.size w W→Calls Tryz.prog G (#[.int .u8 (x.toNat:Int)]++cp) W fun e w'=>e=.returned (.bool (p x))∧Hid (Below W.heap.size W w'))) :
  Calls Tryz.prog 99 #[.slice s.at_ n s.cap,.func (.func G) #[] cp] w fun e w'=>e=.returned (.bool (s.l.any p))∧Hid (Below w.heap.size w w'):=by
 have H:=hide (idx_tys s n G cp p w hr hn hl hcf hG)
 go_enter Tryz.func99,Tryz.ntmps99
 go_wp2_with fail
 refine H.out.mono ?_;rintro e w' ⟨i,rfl,hi,hd,h2⟩
 go_wp2_with fail
 go_ret
 exact⟨by rw[←hd.out];rfl,h2⟩
theorem mag_neg (n:Int) (h:n<0):magN n=(-n-1).toNat:=by unfold magN;rw[if_pos h]
theorem mag_pos (n:Int) (h:¬n<0):magN n=n.toNat:=by unfold magN;rw[if_neg h]
theorem xor_minus_one (n:Int) (h1:-9223372036854775808≤n) (h2:n≤9223372036854775807):bits .xor .i64 (-1) n=-n-1:=by
 show IntKind.i64.wrap ((BitVec.ofInt 64 (-1) ^^^ BitVec.ofInt 64 n).toNat:Int)=_
 have e:BitVec.ofInt 64 (-1)=BitVec.allOnes 64:=by decide
 rw[e,BitVec.allOnes_xor,BitVec.toNat_not,BitVec.toNat_ofInt,IntKind.wrap_i64]
 simp only[Nat.reducePow]
 omega
set_option maxHeartbeats 400000 in
theorem sizeSigned_any (n:Int) (w:World) (h1:-9223372036854775808≤n) (h2:n≤9223372036854775807) :
  Calls Tryz.prog 144 #[.int .i64 n] w fun e w'=>e=.returned (.int .i64 (sizeS n))∧w=w':=by
 obtain⟨l,hl⟩:∃l,Lib.bitLen (magN n)=l:=⟨_,rfl⟩
 have hl2:l≤63:=by rw[←hl];exact Lib.bitLen_le _ 63 (by omega) (magN_lt n h1 h2)
 have hm:=magN_lt n h1 h2
 simp only[Nat.reducePow]at hm
 have hc:=Tryz.bits_Len64 (magN n:Int) w (by omega) (by omega)
 rw[show ((magN n:Nat):Int).toNat=magN n from rfl,hl]at hc
 obtain⟨k,hk⟩:∃k,cntN (l+1)=k:=⟨_,rfl⟩
 have hk2:k≤10:=by rw[←hk];unfold cntN;omega
 have HK:Hid (cntN ((l:Int)+1).toNat=k):=by show cntN _=k;rw[←hk];congr 1
 have HS:Hid (sizeS n=k):=by show sizeS n=_;unfold sizeS;rw[hl,←hk];rfl
 clear hk hl
 by_cases h0:n<0
 ·rw[mag_neg n h0,show (((-n-1).toNat:Nat):Int)=-n-1 from by omega]at hc
  have HC:=hide hc;clear hc hm
  go_enter Tryz.func144,Tryz.ntmps144
  have hx:IntKind.u64.wrap (bits .xor .i64 (-1) n)=-n-1:=by
   rw[xor_minus_one n h1 h2,IntKind.wrap_u64];omega
  have HX:=hide hx;clear hx
  go_wp2_with fail
  rw[HX.out]
  refine HC.out.mono ?_;rintro e w' ⟨rfl,rfl⟩
  go_wp2_with fail
  refine(count_any _ k HK _ (by omega) (by omega)).mono ?_;rintro e w' ⟨rfl,rfl⟩
  go_wp2_with fail
  go_ret
  exact⟨ret_int (by rw[HS.out]),rfl⟩
 ·rw[mag_pos n h0,show ((n.toNat:Nat):Int)=n from by omega]at hc
  have HC:=hide hc;clear hc hm
  go_enter Tryz.func144,Tryz.ntmps144
  go_wp2_with fail
  refine HC.out.mono ?_;rintro e w' ⟨rfl,rfl⟩
  go_wp2_with fail
  refine(count_any _ k HK _ (by omega) (by omega)).mono ?_;rintro e w' ⟨rfl,rfl⟩
  go_wp2_with fail
  go_ret
  exact⟨ret_int (by rw[HS.out]),rfl⟩
theorem byte_cont (n:Nat):bits .or .u8 (bits .and .u8 ((n:Int)%256) 127) 128=((n%128+128:Nat):Int):=by
 have h0:(n:Int)%256=((n%256:Nat):Int):=by omega
 have h1:=u8_and_nat (n%256) 127 (Nat.mod_lt _ (by omega)) (by omega)
 rw[and127,show n%256%128=n%128 from by omega]at h1
 have h2:=u8_or_nat (n%128) 128 (by omega) (by omega)
 have h3:n%128 ||| 128=n%128+128:=by rw[Nat.or_comm];exact nat_join 7 128 (n%128) (by omega) (Nat.mod_lt _ (by omega)) |>.trans (by omega)
 rw[h3]at h2
 rw[h0]
 exact(congrArg (fun z=>bits .or .u8 z 128) h1).trans h2
set_option maxHeartbeats 400000 in
set_option maxRecDepth 100000 in
theorem put_any (base:Nat) (v:Value) (xs:List UInt8) (n:Nat) (w:World) (hn:Hid (n<2^64)) (hown:Hid (OwnB w base v xs)) (hb:base≤w.heap.size) (hl:xs.length≤1000000) :
  Calls Tryz.prog 66 #[v,.int .u64 n] w fun e w'=>∃v',e=.returned v'∧OwnB w' base v' (xs++putN n)∧Grows w w' v v':=by
 go_enter Tryz.func66,Tryz.ntmps66
 go_wp2_with fail
 go_loopw [0,1] (fun v1 n1 w1=>∃(ys:List UInt8) (m:Nat),n1=.int .u64 m∧Hid (m<2^64)∧Hid (OwnB w1 base v1 ys)∧Hid (ys++putN m=xs++putN n)∧Hid (Grows w w1 v v1)∧base≤w1.heap.size) (fun _ n1 _=>(intOf n1).toNat)
 case atStart=>exact⟨xs,n,rfl,hn,hown,rfl,Grows.refl _ _,hb⟩
 case round =>
  obtain⟨ys,m,rfl,hm,ho,he,hg,hb1⟩:=hrel
  have hl1:ys.length≤1000010:=by
   have h:=congrArg List.length he.out
   have:=putN_length n
   simp only[List.length_append]at h
   omega
  by_cases hlt:128≤m
  ·have hroom:Room ys.length 1 1:=room_of (by omega) (by omega)
   go_wp2_with (at_builtin;refine wpList_push rfl _ _ rfl base u8_elem _ ys.length (ys.map B) rfl wr _ _ rfl ho.out rfl rfl hroom hb1 ?_;intro v' w' ho' hg')
   go_roundw
   case rel =>
    rw[byte_cont,B_ofNat _ (by omega)]at ho'
    exact⟨ys++[UInt8.ofNat (m%128+128)],m/128,int_congr (by omega),Nat.lt_of_le_of_lt (Nat.div_le_self _ _) hm.out,OwnB.push ho',
     by show _=_;rw[←he.out,putN_step m hlt hm.out];simp,hg.out.trans hg',Nat.le_trans hb1 hg'.by_.size⟩
   case measure=>simp[intOf];omega
  ·have hlt':m<128:=by omega
   clear hlt
   have hroom:Room ys.length 1 1:=room_of (by omega) (by omega)
   go_wp2_with (at_builtin;refine wpList_push rfl _ _ rfl base u8_elem _ ys.length (ys.map B) rfl wr _ _ rfl ho.out rfl rfl hroom hb1 ?_;intro v' w' ho' hg')
   go_ret
   rw[B_ofNat _ (by omega)]at ho'
   exact⟨v',rfl,(OwnB.push ho').cast (by rw[←he.out,putN_small m hlt']),hg.out.trans hg'⟩
theorem byte_low (m:Int):bits .and .u8 (m%256) 127=(((m%128).toNat:Nat):Int):=by
 have h0:m%256=(((m%256).toNat:Nat):Int):=by omega
 have h1:=u8_and_nat (m%256).toNat 127 (by omega) (by omega)
 rw[and127]at h1
 rw[h0]
 refine h1.trans ?_
 congr 1
 omega
theorem byte_high (m:Int):bits .or .u8 (bits .and .u8 (m%256) 127) 128=(((m%128).toNat+128:Nat):Int):=by
 rw[byte_low]
 have h2:=u8_or_nat (m%128).toNat 128 (by omega) (by omega)
 have h3:(m%128).toNat ||| 128=(m%128).toNat+128:=by rw[Nat.or_comm];exact(nat_join 7 128 (m%128).toNat (by omega) (by omega)).trans (by omega)
 rw[h3]at h2
 exact h2
set_option maxHeartbeats 400000 in
set_option maxRecDepth 100000 in
theorem putSigned_any (base:Nat) (v:Value) (xs:List UInt8) (n:Int) (w:World) (h1:-9223372036854775808≤n) (h2:n≤9223372036854775807) (hown:Hid (OwnB w base v xs)) (hb:base≤w.heap.size) (hl:xs.length≤1000000) :
  Calls Tryz.prog 124 #[v,.int .i64 n] w fun e w'=>∃v',e=.returned v'∧OwnB w' base v' (xs++putSN n)∧Grows w w' v v':=by
 have hsz:=sizeS_bd n h1 h2
 obtain⟨s,hs⟩:∃s,sizeS n=s+1:=⟨sizeS n-1,by omega⟩
 have hP:Hid (putSN n=putS s n):=by show putSN n=_;unfold putSN;rw[hs];rfl
 have hs9:s≤9:=by omega
 have hS:=sizeSigned_any n w h1 h2
 rw[hs]at hS
 clear hsz hs
 have HS:=hide hS;clear hS
 go_enter Tryz.func124,Tryz.ntmps124
 go_wp2_with fail
 refine HS.out.mono ?_;rintro e w' ⟨rfl,rfl⟩
 go_wp2_with fail
 go_loopw [0,1,5] (fun v1 n1 i1 w1=>∃(ys:List UInt8) (m:Int) (k:Nat),n1=.int .i64 m∧i1=.int .i64 ((k:Int)+1)∧k≤9∧Hid (-9223372036854775808≤m∧m≤9223372036854775807)∧Hid (OwnB w1 base v1 ys)∧Hid (ys++putS k m=xs++putS s n)∧Hid (Grows w w1 v v1)∧base≤w1.heap.size) (fun _ _ i1 _=>(intOf i1).toNat)
 case atStart=>exact⟨xs,n,s,rfl,by go_num,hs9,⟨h1,h2⟩,hown,rfl,Grows.refl _ _,hb⟩
 case round =>
  obtain⟨ys,m,k,rfl,rfl,hk9,hm,ho,he,hg,hb1⟩:=hrel
  have hl1:ys.length≤1000010:=by
   have h:=congrArg List.length he.out
   simp only[List.length_append,putS_length]at h
   omega
  have hroom:Room ys.length 1 1:=room_of (by omega) (by omega)
  clear h1 h2
  obtain _|k:=k
  ·go_wp2_with (at_builtin;refine wpList_push rfl _ _ rfl base u8_elem _ ys.length (ys.map B) rfl wr _ _ rfl ho.out rfl rfl hroom hb1 ?_;intro v' w' ho' hg')
   go_ret
   rw[byte_low,B_ofNat _ (by omega)]at ho'
   exact⟨v',rfl,(OwnB.push ho').cast (by rw[hP.out,←he.out];rfl),hg.out.trans hg'⟩
  ·go_wp2_with (at_builtin;refine wpList_push rfl _ _ rfl base u8_elem _ ys.length (ys.map B) rfl wr _ _ rfl ho.out rfl rfl hroom hb1 ?_;intro v' w' ho' hg')
   go_roundw
   case rel =>
    rw[byte_high,B_ofNat _ (by omega)]at ho'
    have hm':=hm.out
    exact⟨ys++[UInt8.ofNat ((m%128).toNat+128)],m/128,k,rfl,rfl,by omega,by show _∧_;omega,OwnB.push ho',
     by show _=_;rw[←he.out,putS];simp,hg.out.trans hg',Nat.le_trans hb1 hg'.by_.size⟩
   case measure=>simp[intOf];omega
end Go.Proofs.YtomppgohoplemaaGreat
