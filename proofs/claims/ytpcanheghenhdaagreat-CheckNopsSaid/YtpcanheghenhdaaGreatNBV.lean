import Derived.Test.YtpcanheghenhdaaGreatNBP
import Derived.Test.YtpcanheghenhdaaGreatNBU
set_option linter.unusedVariables false
namespace Go.Proofs.YtpcanheghenhdaaGreat
open Go.RowKit
def nopXL:XL:=⟨1,0,0,0,noSl⟩
def nopS (l:List XL) (k:Nat):List XL:=l.take k++nopXL::l.drop k
def nopFu (y:FuL) (A:Option Addr) (c k:Nat):FuL:=⟨y.sig,⟨y.bd.loc,⟨A,c,nopS y.bd.l.l k⟩⟩⟩
def nopM (m:MoL) (A3:Option Addr) (c3 f:Nat) (z:FuL):MoL:={ m with funcs:=⟨A3,c3,m.funcs.l.set f z⟩ }
theorem nopS_len (l:List XL) (k:Nat):(nopS l k).length=l.length+1:=by
 unfold nopS
 rw[List.length_append,List.length_cons,←Nat.add_assoc,←List.length_append,List.take_append_drop]
theorem nopS_mem {l:List XL} {k:Nat} {x:XL} (h:x∈nopS l k):x=nopXL∨x∈l:=by
 unfold nopS at h
 rcases List.mem_append.1 h with h|h
 ·exact .inr (List.mem_of_mem_take h)
 ·rcases List.mem_cons.1 h with h|h
  ·exact .inl h
  ·exact .inr (List.mem_of_mem_drop h)
theorem nopM_g {m:MoL} {f k c c3:Nat} {A A3:Option Addr} {y:FuL} (hy:m.funcs.l[f]?=some y) :
  (nopM m A3 c3 f (nopFu y A c k)).g=withF m.g (setBd m.g f (nopB (m.g.funcs.getD f noFu).bd k)):=by
 have hg:m.g.funcs.getD f noFu=y.g:=getD_some (by simp[MoL.g,hy])
 unfold setBd withF
 rw[hg]
 show Mo.mk _ _ ((m.funcs.l.set f (nopFu y A c k)).map FuL.g) _ _ _ _ _ _ _=_
 rw[List.map_set]
 have:(nopFu y A c k).g=⟨y.g.sig,nopB y.g.bd k⟩:=by
  simp[nopFu,FuL.g,BdL.g,nopB,nopS,nopXL,XL.x,nopX,noSl]
 rw[this]
 rfl
theorem nopM_in {W:World} {m:MoL} {f k c c3:Nat} {A A3:Option Addr} {y:FuL} (h:MoIn W m) (hy:m.funcs.l[f]?=some y)
  (hF:Row W 3 FuL.cs ⟨A3,c3,m.funcs.l.set f (nopFu y A c k)⟩) (hL:Row W 5 XL.cs ⟨A,c,nopS y.bd.l.l k⟩):MoIn W (nopM m A3 c3 f (nopFu y A c k)):=by
 have hyi:=h.func y (List.mem_of_getElem? hy)
 refine⟨h.sigs,h.sig,h.imps,h.imp,hF,fun x hx=>?_,h.table,h.mems,h.mem,h.gls,h.gl,h.exs,h.ex,h.start,h.els,h.el,h.das,h.da⟩
 rcases List.mem_or_eq_of_mem_set hx with hx|hx
 ·exact h.func x hx
 ·subst hx
  refine⟨hyi.1,hyi.2.loc,hL,fun x hx=>?_,fun x hx=>?_⟩
  ·rcases nopS_mem hx with rfl|hx
   ·exact row_none
   ·exact hyi.2.lab x hx
  ·rcases nopS_mem hx with rfl|hx
   ·exact⟨by decide,by decide,by decide,by decide,by decide,by decide,fun n hn=>by simp[nopXL,XL.x,noSl]at hn⟩
   ·exact hyi.2.num x hx
theorem nopM_sm {m:MoL} {f k c c3:Nat} {A A3:Option Addr} {y:FuL} (h:MoSt m) (hy:m.funcs.l[f]?=some y):MoSm (nopM m A3 c3 f (nopFu y A c k)):=by
 obtain⟨s,hf⟩:=h
 refine⟨s.sigs,s.sig,s.imps,s.imp,by simpa [nopM]using s.funcs,fun x hx=>?_,s.mems,s.gls,s.exs,s.ex,s.els,s.el,s.das,s.da⟩
 rcases List.mem_or_eq_of_mem_set hx with hx|hx
 ·exact s.func x hx
 ·subst hx
  obtain⟨a,b,d⟩:=hf y (List.mem_of_getElem? hy)
  refine⟨by show y.bd.loc.l.length≤61;omega,by show (nopS y.bd.l.l k).length≤151;rw[nopS_len];omega,fun x hx=>?_⟩
  rcases nopS_mem hx with rfl|hx
  ·simp[nopXL,noSl]
  ·exact d x hx
theorem peak_at {g:Nat} {m2:MoL} {m:Mo} {w:World} {ml:Int} (hM:Hid (MoAt w g m2)) (hg:Hid (m2.g=m)) (hs:Hid (MoSm m2)) (hml:Hid (w.cell? ⟨0,0,none⟩=some (.int .i64 ml))) (f:Int) (hl:(runP m f).1.length≤1000) (p:Nat) (hp:peakN (runP m f).1=p) :
  Calls Tryz.prog 13 #[.pointer (some ⟨g,0,none⟩),.int .i64 f] w fun e w'=>e=.returned (.int .i64 (p:Int))∧Hid (Below w.heap.size w w'):=by
 have h:=run_any g m2 f w ml hM (hide hs.out.sz) (hide hs.out.bd) hml
 rw[hg.out]at h
 have h2:=peak_of _ f w _ (hide h) hl
 rw[hp]at h2
 exact h2
theorem runC_len {step:PS→XI→RR PS}:∀(l:List XI) (s:PS) (i:Nat) (hs:List Nat),(runC step l s i hs).1.length≤l.length+hs.length
 | [],s,i,hs=>by simp[runC]
 | x::r,s,i,hs=>by
  unfold runC
  split
  ·rename_i s1 _
   have:=runC_len (step:=step) r s1 (i+1) (hs++[s.st.length])
   simp at this ⊢
   omega
  ·simp
theorem runP_len {m2:MoL} (hs:MoSm m2) (f:Int):(runP m2.g f).1.length≤1000:=by
 unfold runP
 split
 ·simp
 ·split
  ·split
   ·simp
   ·unfold runB2
    refine Nat.le_trans (runC_len _ _ _ _) ?_
    have:(m2.g.funcs.getD f.toNat noFu).bd.l.length≤151:=by
     rw[List.getD_eq_getElem?_getD]
     cases h:m2.g.funcs[f.toNat]? with
     | none=>simp[noFu]
     | some z =>
      have h2:(m2.funcs.l.map FuL.g)[f.toNat]?=some z:=h
      rw[List.getElem?_map]at h2
      cases h3:m2.funcs.l[f.toNat]? with
      | none=>rw[h3]at h2;cases h2
      | some q =>
       rw[h3]at h2
       injection h2 with h2
       subst h2
       have:=(hs.func q (List.mem_of_getElem? h3)).l
       simpa [FuL.g,BdL.g]using this
    simp only[List.length_nil]
    omega
  ·simp
theorem qf_elem:IsElem Tryz.prog 24 39 3 56:=IsElem.mk' Tryz.underlying24 (z:=.agg #[.int .i64 0,.slice none 0 0,.slice none 0 0]) (by kernel_rfl) rfl (by omega)
theorem qi_elem:IsElem Tryz.prog 35 45 5 56:=IsElem.mk' Tryz.underlying35 (z:=.agg #[.int .i64 0,.int .u64 0,.int .u64 0,.int .i64 0,.slice none 0 0]) (by kernel_rfl) rfl (by omega)
theorem append_void {P:Program} {w:World} {t ty e:TypeId} {size bytes:Nat} (hE:IsElem P t e size bytes) (g base:Nat) (Bk:Nat) (A:Option Addr) (m c:Nat) (news:List Value)
  (hr:Reads w Bk size A m news) (hroom:Room 0 m bytes) (hbase:base≤w.heap.size) :
  ∃v' w',(Builtin.append_ #[t,t] ty #[.slice (some ⟨g,0,none⟩) 0 0,.slice A m c]).run P w=.ok v' w'∧((m=0∧v'=.slice (some ⟨g,0,none⟩) 0 0)∨(0<m∧w'.ownsRow base e size v' m news))∧Below w.heap.size w w':=by
 obtain⟨ht,i,z,hi,hz,hsize,hby,hzs,hsz⟩:=hE
 rcases Nat.eq_zero_or_pos m with h0|h0
 ·subst h0
  refine⟨_,w,?_,.inl ⟨rfl,rfl⟩,Below.refl _ _⟩
  cases A with
  | none=>simp[Builtin.append_,run_underlying ht,sizeOf,typeInfo,hi,Builtin.lenOf,Builtin.firstCells,storeCells,loadCells,loadCellsFrom]
  | some a=>simp[Builtin.append_,run_underlying ht,sizeOf,typeInfo,hi,Builtin.lenOf,Builtin.firstCells,storeCells,loadCells,loadCellsFrom]
 ·obtain⟨ad,rfl,_,hc⟩:=hr.2 h0
  obtain⟨v',w',hrun,h2,h3⟩:=run_append_arg_grows (P:=P) (w:=w) t ty e i z size bytes ht hi hz hsize hby hzs hsz ⟨g,0,none⟩ 0 0 [] (by simp) (by simp) ad m c news hr.1 hc (by omega) hroom.1 hroom.2
  refine⟨v',w',hrun,.inr ⟨h0,?_⟩,(Below.refl _ _).grown h3 (Nat.le_refl _) (fun q hq=>by cases hq)⟩
  rw[Nat.zero_add,List.nil_append]at h2
  exact own_base h2 (fun q hq=>by have:=own_ge h2 q hq;omega)
theorem cs_one {l:List FuL}:∀u∈l.flatMap FuL.cs,u.oneCell'=true:=by
 intro u hu
 obtain⟨z,_,hz⟩:=List.mem_flatMap.1 hu
 simp[FuL.cs,Sl.val]at hz
 rcases hz with rfl|rfl|rfl<;>rfl
theorem xs_one {l:List XL}:∀u∈l.flatMap XL.cs,u.oneCell'=true:=by
 intro u hu
 obtain⟨z,_,hz⟩:=List.mem_flatMap.1 hu
 simp[XL.cs,insD,XL.t,Sl.val]at hz
 rcases hz with rfl|rfl|rfl|rfl|rfl<;>rfl
theorem nop_cs:XL.cs nopXL=[.int .i64 1,.int .u64 0,.int .u64 0,.int .i64 0,.slice none 0 0]:=rfl
theorem run_uptoI (ad:Addr) (n c k:Nat) (hk:k≤n) (hn:n≤c) (W:World):(Instr.sliceAt 35 (.slice (some ad) n c) none (some (.int .i64 k)) none).run Tryz.prog W=.ok (.slice (some ad) k c) W:=by
 have hk0:(0:Int)≤(k:Int):=by omega
 have hkc:(k:Int)≤(c:Int):=by omega
 have hm:(some ad:Option Addr).map (fun x=>x.add 0)=some ad:=by simp[Addr.add]
 go_simp
theorem run_fromI (ad:Addr) (n c k:Nat) (hk:k<n) (hn:n≤c) (W:World):(Instr.sliceAt 35 (.slice (some ad) n c) (some (.int .i64 k)) none none).run Tryz.prog W=.ok (.slice (some (ad.add (k*5))) (n-k) (c-k)) W:=by
 have hk0:(0:Int)≤(k:Int):=by omega
 have hkc:(k:Int)≤(n:Int):=by omega
 have hnc:(n:Int)≤(c:Int):=by omega
 have hne:¬c=k:=by omega
 go_simp
theorem flat_upto {α:Type} {dec:α→List Value} {size:Nat} (hd:∀a,(dec a).length=size):∀(l:List α) (j:Nat),(l.flatMap dec).take (j*size)=(l.take j).flatMap dec
 | [],j=>by simp
 | x::l,0=>by simp
 | x::l,j+1=>by
  rw[List.flatMap_cons,List.take_succ_cons,List.flatMap_cons,List.take_append,hd,List.take_of_length_le (by rw[hd,Nat.succ_mul];omega),show (j+1)*size-size=j*size from by rw[Nat.succ_mul];omega,flat_upto hd l j]
theorem flat_from {α:Type} {dec:α→List Value} {size:Nat} (hd:∀a,(dec a).length=size):∀(l:List α) (j:Nat),(l.flatMap dec).drop (j*size)=(l.drop j).flatMap dec
 | [],j=>by simp
 | x::l,0=>by simp
 | x::l,j+1=>by
  rw[List.flatMap_cons,List.drop_succ_cons,List.drop_append,hd,List.drop_eq_nil_of_le (by rw[hd,Nat.succ_mul];omega),show (j+1)*size-size=j*size from by rw[Nat.succ_mul];omega,flat_from hd l j]
  rfl
section
variable {P:Program} {o:Oper} {ρ:Operand→Value} {W:World} {v:Value} {post:Value→World→Prop}
theorem OpOut.slTo {t:TypeId} {x y:Operand} {a b:Value} (ho:o.op=.slice t x none (some y) none) (hx:ρ x=a) (hy:ρ y=b) (hr:(Instr.sliceAt t a none (some b) none).run P W=.ok v W) (h:post v W):OpOut P o ρ W post :=
 ⟨by unfold execOp;rw[ho];simp only[hx,hy,Option.map_none,Option.map_some,Sem.run_bind,Sem.run_pure,hr,Result.andThen_ok];exact h⟩
theorem OpOut.slFrom {t:TypeId} {x y:Operand} {a b:Value} (ho:o.op=.slice t x (some y) none none) (hx:ρ x=a) (hy:ρ y=b) (hr:(Instr.sliceAt t a (some b) none none).run P W=.ok v W) (h:post v W):OpOut P o ρ W post :=
 ⟨by unfold execOp;rw[ho];simp only[hx,hy,Option.map_none,Option.map_some,Sem.run_bind,Sem.run_pure,hr,Result.andThen_ok];exact h⟩
end
theorem runC_place {step:PS→XI→RR PS}:∀(l:List XI) (s:PS) (i:Nat) (hs:List Nat),(runC step l s i hs).2.1≤i+l.length
 | [],s,i,hs=>by simp[runC]
 | x::r,s,i,hs=>by
  unfold runC
  split
  ·rename_i s1 _
   have:=runC_place (step:=step) r s1 (i+1) (hs++[s.st.length])
   simp only[List.length_cons]
   omega
  ·simp
theorem body_len {m2:MoL} (hs:MoSm m2) (k:Nat):(m2.g.funcs.getD k noFu).bd.l.length≤151:=by
 rw[List.getD_eq_getElem?_getD]
 cases h:m2.g.funcs[k]? with
 | none=>simp[noFu]
 | some z =>
  have h2:(m2.funcs.l.map FuL.g)[k]?=some z:=h
  rw[List.getElem?_map]at h2
  cases h3:m2.funcs.l[k]? with
  | none=>rw[h3]at h2;cases h2
  | some q =>
   rw[h3]at h2
   injection h2 with h2
   subst h2
   have:=(hs.func q (List.mem_of_getElem? h3)).l
   simpa [FuL.g,BdL.g]using this
theorem runP_at {m2:MoL} (hs:MoSm m2) (f:Int):(runP m2.g f).2.1≤1000:=by
 unfold runP
 split
 ·simp
 ·split
  ·split
   ·simp
   ·unfold runB2
    refine Nat.le_trans (runC_place _ _ _ _) ?_
    have:=body_len hs f.toNat
    omega
  ·simp
theorem nop_rowF {w:World} {base k n j c3 c4 q3:Nat} {A4:Option Addr} {t:TypeId} {fs:List FuL} {y:FuL} (hy:fs[k]?=some y) (hn:y.bd.l.l.length=n) (hj:j<n)
  (h:w.ownsRow base t 3 (.slice (some ⟨q3,0,none⟩) fs.length c3) fs.length ((fs.flatMap FuL.cs).set (k*3+2) (.slice A4 (j+1+(n-j)) c4))):Row w 3 FuL.cs ⟨some ⟨q3,0,none⟩,c3,fs.set k (nopFu y A4 c4 j)⟩:=by
 have hs:(fs.flatMap FuL.cs).set (k*3+2) (.slice A4 (j+1+(n-j)) c4)=(fs.set k (nopFu y A4 c4 j)).flatMap FuL.cs:=by
  refine flatMap_set (dec:=FuL.cs) (fun _=>rfl) fs k 2 _ (nopFu y A4 c4 j) _ hy (by omega) ?_
  have e:(nopS y.bd.l.l j).length=j+1+(n-j):=by rw[nopS_len,hn];omega
  simp[FuL.cs,nopFu,Sl.val,e]
 rw[hs]at h
 exact(RowF.of_own (l:=fs.set k (nopFu y A4 c4 j)) h (by simp)).row
theorem nop_rowL {w:World} {base n j c4:Nat} {A4:Option Addr} {t:TypeId} {l:List XL} (hn:l.length=n) (hj:j<n)
  (h:w.ownsRow base t 5 (.slice A4 (j+1+(n-j)) c4) (j+1+(n-j)) (((l.take j).flatMap XL.cs++[.int .i64 1,.int .u64 0,.int .u64 0,.int .i64 0,.slice none 0 0])++(l.drop j).flatMap XL.cs)):Row w 5 XL.cs ⟨A4,c4,nopS l j⟩:=by
 refine(RowF.of_own (l:=nopS l j) (own_cast h rfl ?_) (by rw[nopS_len,hn];omega)).row
 unfold nopS
 rw[List.flatMap_append,List.flatMap_cons,nop_cs,List.append_assoc]
end Go.Proofs.YtpcanheghenhdaaGreat
