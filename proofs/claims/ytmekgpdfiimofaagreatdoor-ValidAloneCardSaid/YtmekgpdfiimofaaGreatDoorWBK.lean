import Derived.Test.YtmekgpdfiimofaaGreatDoorWBJ
import Derived.Test.YtmekgpdfiimofaaGreatDoorWAN
import Derived.BigQuiet
set_option linter.unusedVariables false
namespace Go.Proofs.YtmekgpdfiimofaaGreatDoor
open Go.RowKit
structure Part {α:Type} (w:World) (mg size:Nat) (dec:α→List Value) (sv fv:Value) (s:Sl α):Prop where
 row:RowF w (mg+1) size dec s
 offS:Off sv s
 offF:Off fv s
structure TS (w:World) (mg:Nat) (m:MoL) (sv fv:Value) (zs:List SgL) (ys:List FuL):Prop where
 blk:w.heap[mg]?=some (.cells #[sv,m.imps.val,fv,.int .i64 m.table,m.mems.val,m.gls.val,m.exs.val,.int .i64 m.start,m.els.val,m.das.val] 64 (0,0))
 os:w.ownsRow (mg+1) 74 2 sv zs.length (zs.flatMap SgL.cs)
 of:w.ownsRow (mg+1) 80 3 fv ys.length (ys.flatMap FuL.cs)
 sf:∀q,sv.ownBlock=some q→fv.ownBlock≠some q
 sp:∀z∈zs,Part w mg 1 bD sv fv z.p∧Part w mg 1 bD sv fv z.r
 fp:∀y∈ys,Part w mg 1 bD sv fv y.bd.loc∧Part w mg 5 XL.cs sv fv y.bd.l∧∀x∈y.bd.l.l,Part w mg 1 uD sv fv x.l
section
variable {α:Type} {w w':World} {mg size:Nat} {dec:α→List Value} {sv fv sv' fv':Value} {s:Sl α} {m:MoL} {zs:List SgL} {ys:List FuL}
theorem Part.below (h:Part w mg size dec sv fv s) (hb:Below w.heap.size w w'):Part w' mg size dec sv fv s:=⟨h.row.below hb,h.offS,h.offF⟩
theorem Part.cell (h:Part w mg size dec sv fv s) (i:Nat) (u:Value):Part (w.setCell ⟨mg,i,none⟩ u) mg size dec sv fv s :=
 ⟨h.row.only_lt (S:=[mg]) (Only.setCell w (p:=⟨mg,i,none⟩) (by simp) u) (by simp),h.offS,h.offF⟩
theorem Part.growS (h:Part w mg size dec sv fv s) (hg:Grows w w' sv sv'):Part w' mg size dec sv' fv s:=by
 obtain⟨a,b⟩:=h.row.grow h.offS hg
 exact⟨a,b,h.offF⟩
theorem Part.growF (h:Part w mg size dec sv fv s) (hg:Grows w w' fv fv'):Part w' mg size dec sv fv' s:=by
 obtain⟨a,b⟩:=h.row.grow h.offF hg
 exact⟨a,h.offS,b⟩
theorem Part.new {lo:Nat} (h:RowF w lo size dec s) (hlo:mg<lo) (h1:∀q,sv.ownBlock=some q→q<lo) (h2:∀q,fv.ownBlock=some q→q<lo):Part w mg size dec sv fv s :=
 ⟨h.base hlo,Off.new h h1,Off.new h h2⟩
theorem TS.below (h:TS w mg m sv fv zs ys) (hb:Below w.heap.size w w'):TS w' mg m sv fv zs ys :=
 ⟨(hb.block mg (blk_lt h.blk)).trans h.blk,own_only3 (S:=[]) h.os (Only.of_below hb) (by simp),own_only3 (S:=[]) h.of (Only.of_below hb) (by simp),h.sf,fun z hz=>⟨(h.sp z hz).1.below hb,(h.sp z hz).2.below hb⟩,fun y hy=>⟨(h.fp y hy).1.below hb,(h.fp y hy).2.1.below hb,fun x hx=>((h.fp y hy).2.2 x hx).below hb⟩⟩
theorem TS.pushS {z:SgL} (h:TS w mg m sv fv zs ys) (hg:Grows w w' sv sv') (ho:w'.ownsRow (mg+1) 74 2 sv' (zs.length+1) (zs.flatMap SgL.cs++SgL.cs z)) (h1:Part w mg 1 bD sv fv z.p) (h2:Part w mg 1 bD sv fv z.r) :
  TS (w'.setCell ⟨mg,0,none⟩ sv') mg m sv' fv (zs++[z]) ys:=by
 have hl:∀q,sv'.ownBlock=some q→fv.ownBlock≠some q:=fun q hq=>by
  rcases hg.lies with e|⟨g,e,hge⟩
  ·rw[e]at hq;exact h.sf q hq
  ·rw[e]at hq;injection hq with hq;subst hq;exact fun e2=>by have:=own_lt h.of _ e2;omega
 have hblk:=(hg.only.block mg (blk_lt h.blk) (fun hm=>by have:=own_ge h.os mg (by simpa using hm);omega)).trans h.blk
 have hO:Only [mg] w' (w'.setCell ⟨mg,0,none⟩ sv'):=Only.setCell w' (p:=⟨mg,0,none⟩) (by simp) _
 have hne:∀{v:Value} {e:TypeId} {k n:Nat} {xs:List Value},w'.ownsRow (mg+1) e k v n xs→∀q,v.ownBlock=some q→q∉[mg]:=fun h q hq=>by have:=own_ge h q hq;simp;omega
 have hof:=own_only3 h.of hg.only (fun q hq hm=>h.sf q (by simpa using hm) hq)
 have hos:w'.ownsRow (mg+1) 74 2 sv' (zs++[z]).length ((zs++[z]).flatMap SgL.cs):=own_cast ho (by simp) (by simp)
 refine⟨by rw[setCell_blk hblk];rfl,own_only3 hos hO (hne hos),own_only3 hof hO (hne hof),hl,fun y hy=>?_,fun y hy=>⟨((h.fp y hy).1.growS hg).cell 0 _,((h.fp y hy).2.1.growS hg).cell 0 _,fun x hx=>(((h.fp y hy).2.2 x hx).growS hg).cell 0 _⟩⟩
 rcases List.mem_append.1 hy with hy|hy
 ·exact⟨((h.sp y hy).1.growS hg).cell 0 _,((h.sp y hy).2.growS hg).cell 0 _⟩
 ·simp only[List.mem_singleton]at hy
  subst hy
  exact⟨(h1.growS hg).cell 0 _,(h2.growS hg).cell 0 _⟩
theorem TS.pushF {y:FuL} (h:TS w mg m sv fv zs ys) (hg:Grows w w' fv fv') (ho:w'.ownsRow (mg+1) 80 3 fv' (ys.length+1) (ys.flatMap FuL.cs++FuL.cs y)) (h1:Part w mg 1 bD sv fv y.bd.loc) (h2:Part w mg 5 XL.cs sv fv y.bd.l) (h3:∀x∈y.bd.l.l,Part w mg 1 uD sv fv x.l) :
  TS (w'.setCell ⟨mg,2,none⟩ fv') mg m sv fv' zs (ys++[y]):=by
 have hl:∀q,sv.ownBlock=some q→fv'.ownBlock≠some q:=fun q hq hq2=>by
  rcases hg.lies with e|⟨g,e,hge⟩
  ·rw[e]at hq2;exact h.sf q hq hq2
  ·rw[e]at hq2;injection hq2 with hq2;subst hq2;have:=own_lt h.os _ hq;omega
 have hblk:=(hg.only.block mg (blk_lt h.blk) (fun hm=>by have:=own_ge h.of mg (by simpa using hm);omega)).trans h.blk
 have hO:Only [mg] w' (w'.setCell ⟨mg,2,none⟩ fv'):=Only.setCell w' (p:=⟨mg,2,none⟩) (by simp) _
 have hne:∀{v:Value} {e:TypeId} {k n:Nat} {xs:List Value},w'.ownsRow (mg+1) e k v n xs→∀q,v.ownBlock=some q→q∉[mg]:=fun h q hq=>by have:=own_ge h q hq;simp;omega
 have hos:=own_only3 h.os hg.only (fun q hq hm=>h.sf q hq (by simpa using hm))
 have hof:w'.ownsRow (mg+1) 80 3 fv' (ys++[y]).length ((ys++[y]).flatMap FuL.cs):=own_cast ho (by simp) (by simp)
 refine⟨by rw[setCell_blk hblk];rfl,own_only3 hos hO (hne hos),own_only3 hof hO (hne hof),hl,fun z hz=>⟨((h.sp z hz).1.growF hg).cell 2 _,((h.sp z hz).2.growF hg).cell 2 _⟩,fun u hu=>?_⟩
 rcases List.mem_append.1 hu with hu|hu
 ·exact⟨((h.fp u hu).1.growF hg).cell 2 _,((h.fp u hu).2.1.growF hg).cell 2 _,fun x hx=>(((h.fp u hu).2.2 x hx).growF hg).cell 2 _⟩
 ·simp only[List.mem_singleton]at hu
  subst hu
  exact⟨(h1.growF hg).cell 2 _,(h2.growF hg).cell 2 _,fun x hx=>((h3 x hx).growF hg).cell 2 _⟩
end
section
variable {P:Program} {o:Oper} {ρ:Operand→Value} {W W':World} {post:Value→World→Prop} {v:Value}
theorem OpOut.storeT {t:TypeId} {x y:Operand} {a b:Value} (ho:o.op=.store t x y) (hx:ρ x=a) (hy:ρ y=b) (hr:(Instr.storeAt t a b).run P W=.ok () W') (h:post undef W'):OpOut P o ρ W post :=
 ⟨by unfold execOp;rw[ho];simp only[hx,hy,Sem.run_bind,Sem.run_pure,hr,Result.andThen_ok];exact h⟩
theorem OpOut.indexAddrT {t:TypeId} {x y:Operand} {a b:Value} (ho:o.op=.indexAddr t x y) (hx:ρ x=a) (hy:ρ y=b) (hr:(Instr.indexAt t a b).run P W=.ok v W) (h:post v W):OpOut P o ρ W post :=
 ⟨by unfold execOp;rw[ho];simp only[hx,hy,Sem.run_bind,Sem.run_pure,hr,Result.andThen_ok];exact h⟩
end
theorem sig_elem:IsElem Tryz.prog 61 74 2 48:=IsElem.mk' Tryz.underlying61 (z:=.agg #[.slice none 0 0,.slice none 0 0]) (by kernel_rfl) rfl (by omega)
theorem func_elem:IsElem Tryz.prog 62 80 3 56:=IsElem.mk' Tryz.underlying62 (z:=.agg #[.int .i64 0,.slice none 0 0,.slice none 0 0]) (by kernel_rfl) rfl (by omega)
end Go.Proofs.YtmekgpdfiimofaaGreatDoor
