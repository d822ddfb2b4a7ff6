import Derived.Test.YtomppgohoplemaaGreatNBL
import Derived.Test.YtomppgohoplemaaGreatNAD
import Derived.Laws.EntriesVeiled
set_option linter.unusedVariables false
namespace Go.Proofs.YtomppgohoplemaaGreat
open Go.RowKit
theorem unfit_at {m:Mo} {k:Nat} (hk:k<10) (h0:∀j,j<k→partE m j=0) (h:partE m k≠0):unfitP m=(partN k,partE m k):=by
 have key:∀(n i:Nat),i+n=10→i≤k→unfitFrom m n i=(partN k,partE m k):=by
  intro n
  induction n with
  | zero=>intro i h1 h2;omega
  | succ n ih =>
   intro i h1 h2
   rw[unfitFrom]
   rcases Nat.eq_or_lt_of_le h2 with rfl|hlt
   ·rw[if_pos h]
   ·rw[if_neg (by rw[h0 i hlt];simp)]
    exact ih (i+1) (by omega) hlt
 exact key 10 0 rfl (Nat.zero_le _)
theorem unfit_none {m:Mo} (h0:∀j,j<10→partE m j=0):unfitP m=([],0):=by
 have key:∀(n i:Nat),i+n=10→unfitFrom m n i=([],0):=by
  intro n
  induction n with
  | zero=>intro i h1;rfl
  | succ n ih =>
   intro i h1
   rw[unfitFrom,if_neg (by rw[h0 i (by omega)];simp)]
   exact ih (i+1) (by omega)
 exact key 10 0 rfl
theorem tb_ok {m:Mo} (h:partE m 3=0):-1≤m.table∧m.table≤1000:=by
 have h:tbE m=0:=h
 unfold tbE at h
 split at h
 ·contradiction
 ·split at h
  ·contradiction
  ·omega
theorem im_ok {m:MoL} (h:partE m.g 1=0):∀x∈m.imps.l,inB x.sig m.sigs.l.length=true:=by
 intro x hx
 obtain⟨i,hi,hxi⟩:=List.getElem_of_mem hx
 have:=(manyI_ok (show manyI m.g.imps.length 20 (imE m.g)=0 from h)).2 i hi
 unfold imE at this
 rw[show m.g.imps.getD i noIm=x from getD_some (by show m.imps.l[i]?=some x;rw[List.getElem?_eq_getElem hi,hxi])]at this
 dsimp only at this
 split at this
 ·split at this
  ·rename_i hq
   rwa [show m.g.sigs.length=m.sigs.l.length from by simp[MoL.g]]at hq
  ·contradiction
 ·contradiction
theorem fu_ok {m:MoL} (h:partE m.g 2=0):∀x∈m.funcs.l,inB x.sig m.sigs.l.length=true:=by
 intro x hx
 obtain⟨i,hi,hxi⟩:=List.getElem_of_mem hx
 have h2:fusE m.g=0:=h
 unfold fusE at h2
 split at h2
 ·contradiction
 have:=firstI_of_zero h2 i (by simpa [MoL.g]using hi)
 unfold fuE at this
 rw[show m.g.funcs.getD i noFu=x.g from map_getD (by rw[List.getElem?_eq_getElem hi,hxi])]at this
 split at this
 ·rename_i hq
  rwa [show m.g.sigs.length=m.sigs.l.length from by simp[MoL.g]]at hq
 ·contradiction
theorem partE_le (m:Mo) (k:Nat):partE m k≤1000:=by
 have hm:∀(n most:Nat) (f:Nat→Nat),(∀i,f i≤1000)→manyI n most f≤1000:=by
  intro n most f hf
  unfold manyI
  split
  ·omega
  ·induction n with
   | zero=>simp[firstI]
   | succ n ih =>
    rw[firstI]
    split
    ·exact ih (by omega)
    ·exact hf n
 have hf:∀(n:Nat) (f:Nat→Nat),(∀i,f i≤1000)→firstI f n≤1000:=by
  intro n f hf
  have:=hm n n f hf
  unfold manyI at this
  rwa [if_neg (by omega)]at this
 unfold partE
 split
 ·exact hm _ _ _ (by intro i;unfold sgE;dsimp only;split<;>omega)
 ·exact hm _ _ _ (by intro i;unfold imE;dsimp only;(repeat' split)<;>omega)
 ·unfold fusE;split
  ·omega
  ·exact hf _ _ (by intro i;unfold fuE;split<;>omega)
 ·unfold tbE;(repeat' split)<;>omega
 ·exact hm _ _ _ (by intro i;unfold lmE;dsimp only;split<;>omega)
 ·exact hm _ _ _ (by intro i;unfold glE;dsimp only;split<;>omega)
 ·exact hm _ _ _ (by intro i;unfold exE;dsimp only;(repeat' split)<;>omega)
 ·unfold stE;(repeat' split)<;>omega
 ·exact hm _ _ _ (by intro i;unfold elE;dsimp only;(repeat' split)<;>omega)
 ·exact hm _ _ _ (by intro i;unfold daE;dsimp only;(repeat' split)<;>omega)
def fitD (g:Nat) (x:ByteArray×Nat):List Value:=[.string x.1,.func (.func x.2) #[.pointer (some ⟨g,0,none⟩)] #[]]
def fitL:List (ByteArray×Nat):=[(⟨#[115,105,103,115]⟩,53),(⟨#[105,109,112,111,114,116,115]⟩,54),(⟨#[102,117,110,99,115]⟩,55),(⟨#[116,97,98,108,101]⟩,56),(⟨#[109,101,109,115]⟩,57),(⟨#[103,108,111,98,97,108,115]⟩,58),(⟨#[101,120,112,111,114,116,115]⟩,59),(⟨#[115,116,97,114,116]⟩,60),(⟨#[101,108,101,109,115]⟩,61),(⟨#[100,97,116,97]⟩,62)]
theorem fit_tab:IsTab Tryz.prog 161 160 10 2:=⟨Tryz.underlying161,by kernel_rfl,by kernel_rfl,fun _=>by kernel_rfl⟩
theorem fit_ix0 (g:Nat) (W:World):(Instr.index 161 (.agg #[.string ⟨#[115,105,103,115]⟩,.func (.func 53) #[.pointer (some ⟨g,0,none⟩)] #[],.string ⟨#[105,109,112,111,114,116,115]⟩,.func (.func 54) #[.pointer (some ⟨g,0,none⟩)] #[],.string ⟨#[102,117,110,99,115]⟩,.func (.func 55) #[.pointer (some ⟨g,0,none⟩)] #[],.string ⟨#[116,97,98,108,101]⟩,.func (.func 56) #[.pointer (some ⟨g,0,none⟩)] #[],.string ⟨#[109,101,109,115]⟩,.func (.func 57) #[.pointer (some ⟨g,0,none⟩)] #[],.string ⟨#[103,108,111,98,97,108,115]⟩,.func (.func 58) #[.pointer (some ⟨g,0,none⟩)] #[],.string ⟨#[101,120,112,111,114,116,115]⟩,.func (.func 59) #[.pointer (some ⟨g,0,none⟩)] #[],.string ⟨#[115,116,97,114,116]⟩,.func (.func 60) #[.pointer (some ⟨g,0,none⟩)] #[],.string ⟨#[101,108,101,109,115]⟩,.func (.func 61) #[.pointer (some ⟨g,0,none⟩)] #[],.string ⟨#[100,97,116,97]⟩,.func (.func 62) #[.pointer (some ⟨g,0,none⟩)] #[]]) (.int .i64 0)).run Tryz.prog W=.ok (.agg #[.string ⟨#[115,105,103,115]⟩,.func (.func 53) #[.pointer (some ⟨g,0,none⟩)] #[]]) W :=
 run_index_row fit_tab (fitD g) (fun _=>rfl) fitL rfl 0 _ rfl W
theorem fit_ix1 (g:Nat) (W:World):(Instr.index 161 (.agg #[.string ⟨#[115,105,103,115]⟩,.func (.func 53) #[.pointer (some ⟨g,0,none⟩)] #[],.string ⟨#[105,109,112,111,114,116,115]⟩,.func (.func 54) #[.pointer (some ⟨g,0,none⟩)] #[],.string ⟨#[102,117,110,99,115]⟩,.func (.func 55) #[.pointer (some ⟨g,0,none⟩)] #[],.string ⟨#[116,97,98,108,101]⟩,.func (.func 56) #[.pointer (some ⟨g,0,none⟩)] #[],.string ⟨#[109,101,109,115]⟩,.func (.func 57) #[.pointer (some ⟨g,0,none⟩)] #[],.string ⟨#[103,108,111,98,97,108,115]⟩,.func (.func 58) #[.pointer (some ⟨g,0,none⟩)] #[],.string ⟨#[101,120,112,111,114,116,115]⟩,.func (.func 59) #[.pointer (some ⟨g,0,none⟩)] #[],.string ⟨#[115,116,97,114,116]⟩,.func (.func 60) #[.pointer (some ⟨g,0,none⟩)] #[],.string ⟨#[101,108,101,109,115]⟩,.func (.func 61) #[.pointer (some ⟨g,0,none⟩)] #[],.string ⟨#[100,97,116,97]⟩,.func (.func 62) #[.pointer (some ⟨g,0,none⟩)] #[]]) (.int .i64 1)).run Tryz.prog W=.ok (.agg #[.string ⟨#[105,109,112,111,114,116,115]⟩,.func (.func 54) #[.pointer (some ⟨g,0,none⟩)] #[]]) W :=
 run_index_row fit_tab (fitD g) (fun _=>rfl) fitL rfl 1 _ rfl W
theorem fit_ix2 (g:Nat) (W:World):(Instr.index 161 (.agg #[.string ⟨#[115,105,103,115]⟩,.func (.func 53) #[.pointer (some ⟨g,0,none⟩)] #[],.string ⟨#[105,109,112,111,114,116,115]⟩,.func (.func 54) #[.pointer (some ⟨g,0,none⟩)] #[],.string ⟨#[102,117,110,99,115]⟩,.func (.func 55) #[.pointer (some ⟨g,0,none⟩)] #[],.string ⟨#[116,97,98,108,101]⟩,.func (.func 56) #[.pointer (some ⟨g,0,none⟩)] #[],.string ⟨#[109,101,109,115]⟩,.func (.func 57) #[.pointer (some ⟨g,0,none⟩)] #[],.string ⟨#[103,108,111,98,97,108,115]⟩,.func (.func 58) #[.pointer (some ⟨g,0,none⟩)] #[],.string ⟨#[101,120,112,111,114,116,115]⟩,.func (.func 59) #[.pointer (some ⟨g,0,none⟩)] #[],.string ⟨#[115,116,97,114,116]⟩,.func (.func 60) #[.pointer (some ⟨g,0,none⟩)] #[],.string ⟨#[101,108,101,109,115]⟩,.func (.func 61) #[.pointer (some ⟨g,0,none⟩)] #[],.string ⟨#[100,97,116,97]⟩,.func (.func 62) #[.pointer (some ⟨g,0,none⟩)] #[]]) (.int .i64 2)).run Tryz.prog W=.ok (.agg #[.string ⟨#[102,117,110,99,115]⟩,.func (.func 55) #[.pointer (some ⟨g,0,none⟩)] #[]]) W :=
 run_index_row fit_tab (fitD g) (fun _=>rfl) fitL rfl 2 _ rfl W
theorem fit_ix3 (g:Nat) (W:World):(Instr.index 161 (.agg #[.string ⟨#[115,105,103,115]⟩,.func (.func 53) #[.pointer (some ⟨g,0,none⟩)] #[],.string ⟨#[105,109,112,111,114,116,115]⟩,.func (.func 54) #[.pointer (some ⟨g,0,none⟩)] #[],.string ⟨#[102,117,110,99,115]⟩,.func (.func 55) #[.pointer (some ⟨g,0,none⟩)] #[],.string ⟨#[116,97,98,108,101]⟩,.func (.func 56) #[.pointer (some ⟨g,0,none⟩)] #[],.string ⟨#[109,101,109,115]⟩,.func (.func 57) #[.pointer (some ⟨g,0,none⟩)] #[],.string ⟨#[103,108,111,98,97,108,115]⟩,.func (.func 58) #[.pointer (some ⟨g,0,none⟩)] #[],.string ⟨#[101,120,112,111,114,116,115]⟩,.func (.func 59) #[.pointer (some ⟨g,0,none⟩)] #[],.string ⟨#[115,116,97,114,116]⟩,.func (.func 60) #[.pointer (some ⟨g,0,none⟩)] #[],.string ⟨#[101,108,101,109,115]⟩,.func (.func 61) #[.pointer (some ⟨g,0,none⟩)] #[],.string ⟨#[100,97,116,97]⟩,.func (.func 62) #[.pointer (some ⟨g,0,none⟩)] #[]]) (.int .i64 3)).run Tryz.prog W=.ok (.agg #[.string ⟨#[116,97,98,108,101]⟩,.func (.func 56) #[.pointer (some ⟨g,0,none⟩)] #[]]) W :=
 run_index_row fit_tab (fitD g) (fun _=>rfl) fitL rfl 3 _ rfl W
theorem fit_ix4 (g:Nat) (W:World):(Instr.index 161 (.agg #[.string ⟨#[115,105,103,115]⟩,.func (.func 53) #[.pointer (some ⟨g,0,none⟩)] #[],.string ⟨#[105,109,112,111,114,116,115]⟩,.func (.func 54) #[.pointer (some ⟨g,0,none⟩)] #[],.string ⟨#[102,117,110,99,115]⟩,.func (.func 55) #[.pointer (some ⟨g,0,none⟩)] #[],.string ⟨#[116,97,98,108,101]⟩,.func (.func 56) #[.pointer (some ⟨g,0,none⟩)] #[],.string ⟨#[109,101,109,115]⟩,.func (.func 57) #[.pointer (some ⟨g,0,none⟩)] #[],.string ⟨#[103,108,111,98,97,108,115]⟩,.func (.func 58) #[.pointer (some ⟨g,0,none⟩)] #[],.string ⟨#[101,120,112,111,114,116,115]⟩,.func (.func 59) #[.pointer (some ⟨g,0,none⟩)] #[],.string ⟨#[115,116,97,114,116]⟩,.func (.func 60) #[.pointer (some ⟨g,0,none⟩)] #[],.string ⟨#[101,108,101,109,115]⟩,.func (.func 61) #[.pointer (some ⟨g,0,none⟩)] #[],.string ⟨#[100,97,116,97]⟩,.func (.func 62) #[.pointer (some ⟨g,0,none⟩)] #[]]) (.int .i64 4)).run Tryz.prog W=.ok (.agg #[.string ⟨#[109,101,109,115]⟩,.func (.func 57) #[.pointer (some ⟨g,0,none⟩)] #[]]) W :=
 run_index_row fit_tab (fitD g) (fun _=>rfl) fitL rfl 4 _ rfl W
theorem fit_ix5 (g:Nat) (W:World):(Instr.index 161 (.agg #[.string ⟨#[115,105,103,115]⟩,.func (.func 53) #[.pointer (some ⟨g,0,none⟩)] #[],.string ⟨#[105,109,112,111,114,116,115]⟩,.func (.func 54) #[.pointer (some ⟨g,0,none⟩)] #[],.string ⟨#[102,117,110,99,115]⟩,.func (.func 55) #[.pointer (some ⟨g,0,none⟩)] #[],.string ⟨#[116,97,98,108,101]⟩,.func (.func 56) #[.pointer (some ⟨g,0,none⟩)] #[],.string ⟨#[109,101,109,115]⟩,.func (.func 57) #[.pointer (some ⟨g,0,none⟩)] #[],.string ⟨#[103,108,111,98,97,108,115]⟩,.func (.func 58) #[.pointer (some ⟨g,0,none⟩)] #[],.string ⟨#[101,120,112,111,114,116,115]⟩,.func (.func 59) #[.pointer (some ⟨g,0,none⟩)] #[],.string ⟨#[115,116,97,114,116]⟩,.func (.func 60) #[.pointer (some ⟨g,0,none⟩)] #[],.string ⟨#[101,108,101,109,115]⟩,.func (.func 61) #[.pointer (some ⟨g,0,none⟩)] #[],.string ⟨#[100,97,116,97]⟩,.func (.func 62) #[.pointer (some ⟨g,0,none⟩)] #[]]) (.int .i64 5)).run Tryz.prog W=.ok (.agg #[.string ⟨#[103,108,111,98,97,108,115]⟩,.func (.func 58) #[.pointer (some ⟨g,0,none⟩)] #[]]) W :=
 run_index_row fit_tab (fitD g) (fun _=>rfl) fitL rfl 5 _ rfl W
theorem fit_ix6 (g:Nat) (W:World):(Instr.index 161 (.agg #[.string ⟨#[115,105,103,115]⟩,.func (.func 53) #[.pointer (some ⟨g,0,none⟩)] #[],.string ⟨#[105,109,112,111,114,116,115]⟩,.func (.func 54) #[.pointer (some ⟨g,0,none⟩)] #[],.string ⟨#[102,117,110,99,115]⟩,.func (.func 55) #[.pointer (some ⟨g,0,none⟩)] #[],.string ⟨#[116,97,98,108,101]⟩,.func (.func 56) #[.pointer (some ⟨g,0,none⟩)] #[],.string ⟨#[109,101,109,115]⟩,.func (.func 57) #[.pointer (some ⟨g,0,none⟩)] #[],.string ⟨#[103,108,111,98,97,108,115]⟩,.func (.func 58) #[.pointer (some ⟨g,0,none⟩)] #[],.string ⟨#[101,120,112,111,114,116,115]⟩,.func (.func 59) #[.pointer (some ⟨g,0,none⟩)] #[],.string ⟨#[115,116,97,114,116]⟩,.func (.func 60) #[.pointer (some ⟨g,0,none⟩)] #[],.string ⟨#[101,108,101,109,115]⟩,.func (.func 61) #[.pointer (some ⟨g,0,none⟩)] #[],.string ⟨#[100,97,116,97]⟩,.func (.func 62) #[.pointer (some ⟨g,0,none⟩)] #[]]) (.int .i64 6)).run Tryz.prog W=.ok (.agg #[.string ⟨#[101,120,112,111,114,116,115]⟩,.func (.func 59) #[.pointer (some ⟨g,0,none⟩)] #[]]) W :=
 run_index_row fit_tab (fitD g) (fun _=>rfl) fitL rfl 6 _ rfl W
theorem fit_ix7 (g:Nat) (W:World):(Instr.index 161 (.agg #[.string ⟨#[115,105,103,115]⟩,.func (.func 53) #[.pointer (some ⟨g,0,none⟩)] #[],.string ⟨#[105,109,112,111,114,116,115]⟩,.func (.func 54) #[.pointer (some ⟨g,0,none⟩)] #[],.string ⟨#[102,117,110,99,115]⟩,.func (.func 55) #[.pointer (some ⟨g,0,none⟩)] #[],.string ⟨#[116,97,98,108,101]⟩,.func (.func 56) #[.pointer (some ⟨g,0,none⟩)] #[],.string ⟨#[109,101,109,115]⟩,.func (.func 57) #[.pointer (some ⟨g,0,none⟩)] #[],.string ⟨#[103,108,111,98,97,108,115]⟩,.func (.func 58) #[.pointer (some ⟨g,0,none⟩)] #[],.string ⟨#[101,120,112,111,114,116,115]⟩,.func (.func 59) #[.pointer (some ⟨g,0,none⟩)] #[],.string ⟨#[115,116,97,114,116]⟩,.func (.func 60) #[.pointer (some ⟨g,0,none⟩)] #[],.string ⟨#[101,108,101,109,115]⟩,.func (.func 61) #[.pointer (some ⟨g,0,none⟩)] #[],.string ⟨#[100,97,116,97]⟩,.func (.func 62) #[.pointer (some ⟨g,0,none⟩)] #[]]) (.int .i64 7)).run Tryz.prog W=.ok (.agg #[.string ⟨#[115,116,97,114,116]⟩,.func (.func 60) #[.pointer (some ⟨g,0,none⟩)] #[]]) W :=
 run_index_row fit_tab (fitD g) (fun _=>rfl) fitL rfl 7 _ rfl W
theorem fit_ix8 (g:Nat) (W:World):(Instr.index 161 (.agg #[.string ⟨#[115,105,103,115]⟩,.func (.func 53) #[.pointer (some ⟨g,0,none⟩)] #[],.string ⟨#[105,109,112,111,114,116,115]⟩,.func (.func 54) #[.pointer (some ⟨g,0,none⟩)] #[],.string ⟨#[102,117,110,99,115]⟩,.func (.func 55) #[.pointer (some ⟨g,0,none⟩)] #[],.string ⟨#[116,97,98,108,101]⟩,.func (.func 56) #[.pointer (some ⟨g,0,none⟩)] #[],.string ⟨#[109,101,109,115]⟩,.func (.func 57) #[.pointer (some ⟨g,0,none⟩)] #[],.string ⟨#[103,108,111,98,97,108,115]⟩,.func (.func 58) #[.pointer (some ⟨g,0,none⟩)] #[],.string ⟨#[101,120,112,111,114,116,115]⟩,.func (.func 59) #[.pointer (some ⟨g,0,none⟩)] #[],.string ⟨#[115,116,97,114,116]⟩,.func (.func 60) #[.pointer (some ⟨g,0,none⟩)] #[],.string ⟨#[101,108,101,109,115]⟩,.func (.func 61) #[.pointer (some ⟨g,0,none⟩)] #[],.string ⟨#[100,97,116,97]⟩,.func (.func 62) #[.pointer (some ⟨g,0,none⟩)] #[]]) (.int .i64 8)).run Tryz.prog W=.ok (.agg #[.string ⟨#[101,108,101,109,115]⟩,.func (.func 61) #[.pointer (some ⟨g,0,none⟩)] #[]]) W :=
 run_index_row fit_tab (fitD g) (fun _=>rfl) fitL rfl 8 _ rfl W
theorem fit_ix9 (g:Nat) (W:World):(Instr.index 161 (.agg #[.string ⟨#[115,105,103,115]⟩,.func (.func 53) #[.pointer (some ⟨g,0,none⟩)] #[],.string ⟨#[105,109,112,111,114,116,115]⟩,.func (.func 54) #[.pointer (some ⟨g,0,none⟩)] #[],.string ⟨#[102,117,110,99,115]⟩,.func (.func 55) #[.pointer (some ⟨g,0,none⟩)] #[],.string ⟨#[116,97,98,108,101]⟩,.func (.func 56) #[.pointer (some ⟨g,0,none⟩)] #[],.string ⟨#[109,101,109,115]⟩,.func (.func 57) #[.pointer (some ⟨g,0,none⟩)] #[],.string ⟨#[103,108,111,98,97,108,115]⟩,.func (.func 58) #[.pointer (some ⟨g,0,none⟩)] #[],.string ⟨#[101,120,112,111,114,116,115]⟩,.func (.func 59) #[.pointer (some ⟨g,0,none⟩)] #[],.string ⟨#[115,116,97,114,116]⟩,.func (.func 60) #[.pointer (some ⟨g,0,none⟩)] #[],.string ⟨#[101,108,101,109,115]⟩,.func (.func 61) #[.pointer (some ⟨g,0,none⟩)] #[],.string ⟨#[100,97,116,97]⟩,.func (.func 62) #[.pointer (some ⟨g,0,none⟩)] #[]]) (.int .i64 9)).run Tryz.prog W=.ok (.agg #[.string ⟨#[100,97,116,97]⟩,.func (.func 62) #[.pointer (some ⟨g,0,none⟩)] #[]]) W :=
 run_index_row fit_tab (fitD g) (fun _=>rfl) fitL rfl 9 _ rfl W
set_option maxRecDepth 100000 in
set_option maxHeartbeats 20000000 in
theorem fit_any (g:Nat) (m:MoL) (w:World) (h:Hid (MoAt w g m)) (hz:Hid (MoSz m)) :
  Calls Tryz.prog 41 #[.pointer (some ⟨g,0,none⟩)] w fun e w'=>e=.returned (.tuple #[.string ⟨(unfitP m.g).1.toArray⟩,.int .i64 ((unfitP m.g).2:Int)])∧Hid (Below w.heap.size w w'):=by
 go_enter Tryz.func41,Tryz.ntmps41
 go_wp2_with fail
 go_loopw [2,3,5,6,40] (fun r0 r1 p v i w1=>∃k:Nat,r0=.string ⟨#[]⟩∧r1=.int .i64 0∧i=.int .i64 (k:Int)∧k≤10∧Hid (Below w.heap.size w w1)∧Hid (∀j,j<k→partE m.g j=0)) (fun _ _ _ _ i _=>10-(intOf i).toNat)
 case atStart=>exact⟨0,rfl,rfl,rfl,by omega,Below.refl _ _,fun j hj=>by omega⟩
 case round =>
  obtain⟨k,rfl,rfl,rfl,hk,hbw,hz0⟩:=hrel
  rcases(by omega:k=0∨k=1∨k=2∨k=3∨k=4∨k=5∨k=6∨k=7∨k=8∨k=9∨k=10)with h0|h0|h0|h0|h0|h0|h0|h0|h0|h0|h0<;>subst h0
  ·obtain⟨W,hW,hb,hxb,_⟩:=box_new wr #[.string ⟨#[115,105,103,115]⟩,.func (.func 53) #[.pointer (some ⟨g,0,none⟩)] #[]] 160
   have e0:=cell_blk hxb 0
   have e1:=cell_blk hxb 1
   simp at e0 e1
   have HC:=hide (sigs_m g m W (hide ((h.out.below hbw.out).below hb)) hz)
   have hle:=partE_le m.g 0
   have HU:=hide (fun (hne:partE m.g 0≠0)=>unfit_at (m:=m.g) (k:=0) (by omega) hz0.out hne)
   have HZ2:Hid (partE m.g 0=0→∀j,j<0+1→partE m.g j=0):=fun h0 j hj=>by
    rcases Nat.lt_or_ge j 0 with hlt|hge
    ·exact hz0.out j hlt
    ·obtain rfl:j=0:=by omega
     exact h0
   rw[show sgsE m.g=partE m.g 0 from rfl]at HC
   have HB:=hide (hbw.out.trans (hb.mono hbw.out.size));have HW:=hide hW;have HXB:=hide hxb
   clear hb hW hxb hz0 hbw
   generalize partE m.g 0=q at *
   by_cases hq:q=0
   ·subst hq
    have HZ3:=hide (HZ2.out rfl)
    clear HZ2
    have hix:=fit_ix0 g
    rw[show ((0:Nat):Int)=0 from rfl]
    go_upto_region 6 with fail
    rw[HW.out]
    go_wp2_with fail
    refine HC.out.mono ?_;rintro e w2 ⟨rfl,h2⟩
    have HB2:=hide (HB.out.trans (h2.out.mono HB.out.size))
    clear h2 HC e0 e1
    go_wp2_with fail
    go_roundw
    case rel=>exact⟨0+1,(by first|trivial|rfl),(by first|trivial|rfl),(by first|trivial|rfl),by omega,HB2,HZ3⟩
    case measure=>simp[intOf]<;>omega
   ·have h1:((q:Nat):Int)≠0:=by omega
    have h2':((q:Int) != 0)=true:=by simpa using h1
    have hix:=fit_ix0 g
    rw[show ((0:Nat):Int)=0 from rfl]
    go_upto_region 6 with fail
    rw[HW.out]
    go_wp2_with fail
    refine HC.out.mono ?_;rintro e w2 ⟨rfl,h2⟩
    have hx2:=(h2.out.block wr.heap.size (blk_lt HXB.out)).trans HXB.out
    have e2:=cell_blk hx2 0
    simp at e2
    clear hx2
    go_wp2_with fail
    go_ret2
    exact⟨by rw[HU.out hq];rfl,HB.out.trans (h2.out.mono HB.out.size)⟩
  ·obtain⟨W,hW,hb,hxb,_⟩:=box_new wr #[.string ⟨#[105,109,112,111,114,116,115]⟩,.func (.func 54) #[.pointer (some ⟨g,0,none⟩)] #[]] 160
   have e0:=cell_blk hxb 0
   have e1:=cell_blk hxb 1
   simp at e0 e1
   have HC:=hide (imps_m g m W (hide ((h.out.below hbw.out).below hb)) hz)
   have hle:=partE_le m.g 1
   have HU:=hide (fun (hne:partE m.g 1≠0)=>unfit_at (m:=m.g) (k:=1) (by omega) hz0.out hne)
   have HZ2:Hid (partE m.g 1=0→∀j,j<1+1→partE m.g j=0):=fun h0 j hj=>by
    rcases Nat.lt_or_ge j 1 with hlt|hge
    ·exact hz0.out j hlt
    ·obtain rfl:j=1:=by omega
     exact h0
   rw[show imsE m.g=partE m.g 1 from rfl]at HC
   have HB:=hide (hbw.out.trans (hb.mono hbw.out.size));have HW:=hide hW;have HXB:=hide hxb
   clear hb hW hxb hz0 hbw
   generalize partE m.g 1=q at *
   by_cases hq:q=0
   ·subst hq
    have HZ3:=hide (HZ2.out rfl)
    clear HZ2
    have hix:=fit_ix1 g
    rw[show ((1:Nat):Int)=1 from rfl]
    go_upto_region 6 with fail
    rw[HW.out]
    go_wp2_with fail
    refine HC.out.mono ?_;rintro e w2 ⟨rfl,h2⟩
    have HB2:=hide (HB.out.trans (h2.out.mono HB.out.size))
    clear h2 HC e0 e1
    go_wp2_with fail
    go_roundw
    case rel=>exact⟨1+1,(by first|trivial|rfl),(by first|trivial|rfl),(by first|trivial|rfl),by omega,HB2,HZ3⟩
    case measure=>simp[intOf]<;>omega
   ·have h1:((q:Nat):Int)≠0:=by omega
    have h2':((q:Int) != 0)=true:=by simpa using h1
    have hix:=fit_ix1 g
    rw[show ((1:Nat):Int)=1 from rfl]
    go_upto_region 6 with fail
    rw[HW.out]
    go_wp2_with fail
    refine HC.out.mono ?_;rintro e w2 ⟨rfl,h2⟩
    have hx2:=(h2.out.block wr.heap.size (blk_lt HXB.out)).trans HXB.out
    have e2:=cell_blk hx2 0
    simp at e2
    clear hx2
    go_wp2_with fail
    go_ret2
    exact⟨by rw[HU.out hq];rfl,HB.out.trans (h2.out.mono HB.out.size)⟩
  ·obtain⟨W,hW,hb,hxb,_⟩:=box_new wr #[.string ⟨#[102,117,110,99,115]⟩,.func (.func 55) #[.pointer (some ⟨g,0,none⟩)] #[]] 160
   have e0:=cell_blk hxb 0
   have e1:=cell_blk hxb 1
   simp at e0 e1
   have HC:=hide (funcs_m g m W (hide ((h.out.below hbw.out).below hb)) hz)
   have hle:=partE_le m.g 2
   have HU:=hide (fun (hne:partE m.g 2≠0)=>unfit_at (m:=m.g) (k:=2) (by omega) hz0.out hne)
   have HZ2:Hid (partE m.g 2=0→∀j,j<2+1→partE m.g j=0):=fun h0 j hj=>by
    rcases Nat.lt_or_ge j 2 with hlt|hge
    ·exact hz0.out j hlt
    ·obtain rfl:j=2:=by omega
     exact h0
   rw[show fusE m.g=partE m.g 2 from rfl]at HC
   have HB:=hide (hbw.out.trans (hb.mono hbw.out.size));have HW:=hide hW;have HXB:=hide hxb
   clear hb hW hxb hz0 hbw
   generalize partE m.g 2=q at *
   by_cases hq:q=0
   ·subst hq
    have HZ3:=hide (HZ2.out rfl)
    clear HZ2
    have hix:=fit_ix2 g
    rw[show ((2:Nat):Int)=2 from rfl]
    go_upto_region 6 with fail
    rw[HW.out]
    go_wp2_with fail
    refine HC.out.mono ?_;rintro e w2 ⟨rfl,h2⟩
    have HB2:=hide (HB.out.trans (h2.out.mono HB.out.size))
    clear h2 HC e0 e1
    go_wp2_with fail
    go_roundw
    case rel=>exact⟨2+1,(by first|trivial|rfl),(by first|trivial|rfl),(by first|trivial|rfl),by omega,HB2,HZ3⟩
    case measure=>simp[intOf]<;>omega
   ·have h1:((q:Nat):Int)≠0:=by omega
    have h2':((q:Int) != 0)=true:=by simpa using h1
    have hix:=fit_ix2 g
    rw[show ((2:Nat):Int)=2 from rfl]
    go_upto_region 6 with fail
    rw[HW.out]
    go_wp2_with fail
    refine HC.out.mono ?_;rintro e w2 ⟨rfl,h2⟩
    have hx2:=(h2.out.block wr.heap.size (blk_lt HXB.out)).trans HXB.out
    have e2:=cell_blk hx2 0
    simp at e2
    clear hx2
    go_wp2_with fail
    go_ret2
    exact⟨by rw[HU.out hq];rfl,HB.out.trans (h2.out.mono HB.out.size)⟩
  ·obtain⟨W,hW,hb,hxb,_⟩:=box_new wr #[.string ⟨#[116,97,98,108,101]⟩,.func (.func 56) #[.pointer (some ⟨g,0,none⟩)] #[]] 160
   have e0:=cell_blk hxb 0
   have e1:=cell_blk hxb 1
   simp at e0 e1
   have HC:=hide (table13_any g m W (hide ((h.out.below hbw.out).below hb)))
   have hle:=partE_le m.g 3
   have HU:=hide (fun (hne:partE m.g 3≠0)=>unfit_at (m:=m.g) (k:=3) (by omega) hz0.out hne)
   have HZ2:Hid (partE m.g 3=0→∀j,j<3+1→partE m.g j=0):=fun h0 j hj=>by
    rcases Nat.lt_or_ge j 3 with hlt|hge
    ·exact hz0.out j hlt
    ·obtain rfl:j=3:=by omega
     exact h0
   rw[show tbE m.g=partE m.g 3 from rfl]at HC
   have HB:=hide (hbw.out.trans (hb.mono hbw.out.size));have HW:=hide hW;have HXB:=hide hxb
   clear hb hW hxb hz0 hbw
   generalize partE m.g 3=q at *
   by_cases hq:q=0
   ·subst hq
    have HZ3:=hide (HZ2.out rfl)
    clear HZ2
    have hix:=fit_ix3 g
    rw[show ((3:Nat):Int)=3 from rfl]
    go_upto_region 6 with fail
    rw[HW.out]
    go_wp2_with fail
    refine HC.out.mono ?_;rintro e w2 ⟨rfl,h2⟩
    have HB2:=hide (HB.out.trans (h2.out.mono HB.out.size))
    clear h2 HC e0 e1
    go_wp2_with fail
    go_roundw
    case rel=>exact⟨3+1,(by first|trivial|rfl),(by first|trivial|rfl),(by first|trivial|rfl),by omega,HB2,HZ3⟩
    case measure=>simp[intOf]<;>omega
   ·have h1:((q:Nat):Int)≠0:=by omega
    have h2':((q:Int) != 0)=true:=by simpa using h1
    have hix:=fit_ix3 g
    rw[show ((3:Nat):Int)=3 from rfl]
    go_upto_region 6 with fail
    rw[HW.out]
    go_wp2_with fail
    refine HC.out.mono ?_;rintro e w2 ⟨rfl,h2⟩
    have hx2:=(h2.out.block wr.heap.size (blk_lt HXB.out)).trans HXB.out
    have e2:=cell_blk hx2 0
    simp at e2
    clear hx2
    go_wp2_with fail
    go_ret2
    exact⟨by rw[HU.out hq];rfl,HB.out.trans (h2.out.mono HB.out.size)⟩
  ·obtain⟨W,hW,hb,hxb,_⟩:=box_new wr #[.string ⟨#[109,101,109,115]⟩,.func (.func 57) #[.pointer (some ⟨g,0,none⟩)] #[]] 160
   have e0:=cell_blk hxb 0
   have e1:=cell_blk hxb 1
   simp at e0 e1
   have HC:=hide (mems_m g m W (hide ((h.out.below hbw.out).below hb)) hz)
   have hle:=partE_le m.g 4
   have HU:=hide (fun (hne:partE m.g 4≠0)=>unfit_at (m:=m.g) (k:=4) (by omega) hz0.out hne)
   have HZ2:Hid (partE m.g 4=0→∀j,j<4+1→partE m.g j=0):=fun h0 j hj=>by
    rcases Nat.lt_or_ge j 4 with hlt|hge
    ·exact hz0.out j hlt
    ·obtain rfl:j=4:=by omega
     exact h0
   rw[show lmsE m.g=partE m.g 4 from rfl]at HC
   have HB:=hide (hbw.out.trans (hb.mono hbw.out.size));have HW:=hide hW;have HXB:=hide hxb
   clear hb hW hxb hz0 hbw
   generalize partE m.g 4=q at *
   by_cases hq:q=0
   ·subst hq
    have HZ3:=hide (HZ2.out rfl)
    clear HZ2
    have hix:=fit_ix4 g
    rw[show ((4:Nat):Int)=4 from rfl]
    go_upto_region 6 with fail
    rw[HW.out]
    go_wp2_with fail
    refine HC.out.mono ?_;rintro e w2 ⟨rfl,h2⟩
    have HB2:=hide (HB.out.trans (h2.out.mono HB.out.size))
    clear h2 HC e0 e1
    go_wp2_with fail
    go_roundw
    case rel=>exact⟨4+1,(by first|trivial|rfl),(by first|trivial|rfl),(by first|trivial|rfl),by omega,HB2,HZ3⟩
    case measure=>simp[intOf]<;>omega
   ·have h1:((q:Nat):Int)≠0:=by omega
    have h2':((q:Int) != 0)=true:=by simpa using h1
    have hix:=fit_ix4 g
    rw[show ((4:Nat):Int)=4 from rfl]
    go_upto_region 6 with fail
    rw[HW.out]
    go_wp2_with fail
    refine HC.out.mono ?_;rintro e w2 ⟨rfl,h2⟩
    have hx2:=(h2.out.block wr.heap.size (blk_lt HXB.out)).trans HXB.out
    have e2:=cell_blk hx2 0
    simp at e2
    clear hx2
    go_wp2_with fail
    go_ret2
    exact⟨by rw[HU.out hq];rfl,HB.out.trans (h2.out.mono HB.out.size)⟩
  ·obtain⟨W,hW,hb,hxb,_⟩:=box_new wr #[.string ⟨#[103,108,111,98,97,108,115]⟩,.func (.func 58) #[.pointer (some ⟨g,0,none⟩)] #[]] 160
   have e0:=cell_blk hxb 0
   have e1:=cell_blk hxb 1
   simp at e0 e1
   have HC:=hide (gls_m g m W (hide ((h.out.below hbw.out).below hb)) hz)
   have hle:=partE_le m.g 5
   have HU:=hide (fun (hne:partE m.g 5≠0)=>unfit_at (m:=m.g) (k:=5) (by omega) hz0.out hne)
   have HZ2:Hid (partE m.g 5=0→∀j,j<5+1→partE m.g j=0):=fun h0 j hj=>by
    rcases Nat.lt_or_ge j 5 with hlt|hge
    ·exact hz0.out j hlt
    ·obtain rfl:j=5:=by omega
     exact h0
   rw[show glsE m.g=partE m.g 5 from rfl]at HC
   have HB:=hide (hbw.out.trans (hb.mono hbw.out.size));have HW:=hide hW;have HXB:=hide hxb
   clear hb hW hxb hz0 hbw
   generalize partE m.g 5=q at *
   by_cases hq:q=0
   ·subst hq
    have HZ3:=hide (HZ2.out rfl)
    clear HZ2
    have hix:=fit_ix5 g
    rw[show ((5:Nat):Int)=5 from rfl]
    go_upto_region 6 with fail
    rw[HW.out]
    go_wp2_with fail
    refine HC.out.mono ?_;rintro e w2 ⟨rfl,h2⟩
    have HB2:=hide (HB.out.trans (h2.out.mono HB.out.size))
    clear h2 HC e0 e1
    go_wp2_with fail
    go_roundw
    case rel=>exact⟨5+1,(by first|trivial|rfl),(by first|trivial|rfl),(by first|trivial|rfl),by omega,HB2,HZ3⟩
    case measure=>simp[intOf]<;>omega
   ·have h1:((q:Nat):Int)≠0:=by omega
    have h2':((q:Int) != 0)=true:=by simpa using h1
    have hix:=fit_ix5 g
    rw[show ((5:Nat):Int)=5 from rfl]
    go_upto_region 6 with fail
    rw[HW.out]
    go_wp2_with fail
    refine HC.out.mono ?_;rintro e w2 ⟨rfl,h2⟩
    have hx2:=(h2.out.block wr.heap.size (blk_lt HXB.out)).trans HXB.out
    have e2:=cell_blk hx2 0
    simp at e2
    clear hx2
    go_wp2_with fail
    go_ret2
    exact⟨by rw[HU.out hq];rfl,HB.out.trans (h2.out.mono HB.out.size)⟩
  ·obtain⟨W,hW,hb,hxb,_⟩:=box_new wr #[.string ⟨#[101,120,112,111,114,116,115]⟩,.func (.func 59) #[.pointer (some ⟨g,0,none⟩)] #[]] 160
   have e0:=cell_blk hxb 0
   have e1:=cell_blk hxb 1
   simp at e0 e1
   have HC:=hide (exs_m g m W (hide ((h.out.below hbw.out).below hb)) hz (tb_ok (hz0.out 3 (by omega))).1 (tb_ok (hz0.out 3 (by omega))).2)
   have hle:=partE_le m.g 6
   have HU:=hide (fun (hne:partE m.g 6≠0)=>unfit_at (m:=m.g) (k:=6) (by omega) hz0.out hne)
   have HZ2:Hid (partE m.g 6=0→∀j,j<6+1→partE m.g j=0):=fun h0 j hj=>by
    rcases Nat.lt_or_ge j 6 with hlt|hge
    ·exact hz0.out j hlt
    ·obtain rfl:j=6:=by omega
     exact h0
   rw[show exsE m.g=partE m.g 6 from rfl]at HC
   have HB:=hide (hbw.out.trans (hb.mono hbw.out.size));have HW:=hide hW;have HXB:=hide hxb
   clear hb hW hxb hz0 hbw
   generalize partE m.g 6=q at *
   by_cases hq:q=0
   ·subst hq
    have HZ3:=hide (HZ2.out rfl)
    clear HZ2
    have hix:=fit_ix6 g
    rw[show ((6:Nat):Int)=6 from rfl]
    go_upto_region 6 with fail
    rw[HW.out]
    go_wp2_with fail
    refine HC.out.mono ?_;rintro e w2 ⟨rfl,h2⟩
    have HB2:=hide (HB.out.trans (h2.out.mono HB.out.size))
    clear h2 HC e0 e1
    go_wp2_with fail
    go_roundw
    case rel=>exact⟨6+1,(by first|trivial|rfl),(by first|trivial|rfl),(by first|trivial|rfl),by omega,HB2,HZ3⟩
    case measure=>simp[intOf]<;>omega
   ·have h1:((q:Nat):Int)≠0:=by omega
    have h2':((q:Int) != 0)=true:=by simpa using h1
    have hix:=fit_ix6 g
    rw[show ((6:Nat):Int)=6 from rfl]
    go_upto_region 6 with fail
    rw[HW.out]
    go_wp2_with fail
    refine HC.out.mono ?_;rintro e w2 ⟨rfl,h2⟩
    have hx2:=(h2.out.block wr.heap.size (blk_lt HXB.out)).trans HXB.out
    have e2:=cell_blk hx2 0
    simp at e2
    clear hx2
    go_wp2_with fail
    go_ret2
    exact⟨by rw[HU.out hq];rfl,HB.out.trans (h2.out.mono HB.out.size)⟩
  ·obtain⟨W,hW,hb,hxb,_⟩:=box_new wr #[.string ⟨#[115,116,97,114,116]⟩,.func (.func 60) #[.pointer (some ⟨g,0,none⟩)] #[]] 160
   have e0:=cell_blk hxb 0
   have e1:=cell_blk hxb 1
   simp at e0 e1
   have HC:=hide (start13_any g m W (hide ((h.out.below hbw.out).below hb)) hz (im_ok (hz0.out 1 (by omega))) (fu_ok (hz0.out 2 (by omega))))
   have hle:=partE_le m.g 7
   have HU:=hide (fun (hne:partE m.g 7≠0)=>unfit_at (m:=m.g) (k:=7) (by omega) hz0.out hne)
   have HZ2:Hid (partE m.g 7=0→∀j,j<7+1→partE m.g j=0):=fun h0 j hj=>by
    rcases Nat.lt_or_ge j 7 with hlt|hge
    ·exact hz0.out j hlt
    ·obtain rfl:j=7:=by omega
     exact h0
   rw[show stE m.g=partE m.g 7 from rfl]at HC
   have HB:=hide (hbw.out.trans (hb.mono hbw.out.size));have HW:=hide hW;have HXB:=hide hxb
   clear hb hW hxb hz0 hbw
   generalize partE m.g 7=q at *
   by_cases hq:q=0
   ·subst hq
    have HZ3:=hide (HZ2.out rfl)
    clear HZ2
    have hix:=fit_ix7 g
    rw[show ((7:Nat):Int)=7 from rfl]
    go_upto_region 6 with fail
    rw[HW.out]
    go_wp2_with fail
    refine HC.out.mono ?_;rintro e w2 ⟨rfl,h2⟩
    have HB2:=hide (HB.out.trans (h2.out.mono HB.out.size))
    clear h2 HC e0 e1
    go_wp2_with fail
    go_roundw
    case rel=>exact⟨7+1,(by first|trivial|rfl),(by first|trivial|rfl),(by first|trivial|rfl),by omega,HB2,HZ3⟩
    case measure=>simp[intOf]<;>omega
   ·have h1:((q:Nat):Int)≠0:=by omega
    have h2':((q:Int) != 0)=true:=by simpa using h1
    have hix:=fit_ix7 g
    rw[show ((7:Nat):Int)=7 from rfl]
    go_upto_region 6 with fail
    rw[HW.out]
    go_wp2_with fail
    refine HC.out.mono ?_;rintro e w2 ⟨rfl,h2⟩
    have hx2:=(h2.out.block wr.heap.size (blk_lt HXB.out)).trans HXB.out
    have e2:=cell_blk hx2 0
    simp at e2
    clear hx2
    go_wp2_with fail
    go_ret2
    exact⟨by rw[HU.out hq];rfl,HB.out.trans (h2.out.mono HB.out.size)⟩
  ·obtain⟨W,hW,hb,hxb,_⟩:=box_new wr #[.string ⟨#[101,108,101,109,115]⟩,.func (.func 61) #[.pointer (some ⟨g,0,none⟩)] #[]] 160
   have e0:=cell_blk hxb 0
   have e1:=cell_blk hxb 1
   simp at e0 e1
   have HC:=hide (els_m g m W (hide ((h.out.below hbw.out).below hb)) hz (tb_ok (hz0.out 3 (by omega))).1)
   have hle:=partE_le m.g 8
   have HU:=hide (fun (hne:partE m.g 8≠0)=>unfit_at (m:=m.g) (k:=8) (by omega) hz0.out hne)
   have HZ2:Hid (partE m.g 8=0→∀j,j<8+1→partE m.g j=0):=fun h0 j hj=>by
    rcases Nat.lt_or_ge j 8 with hlt|hge
    ·exact hz0.out j hlt
    ·obtain rfl:j=8:=by omega
     exact h0
   rw[show elsE m.g=partE m.g 8 from rfl]at HC
   have HB:=hide (hbw.out.trans (hb.mono hbw.out.size));have HW:=hide hW;have HXB:=hide hxb
   clear hb hW hxb hz0 hbw
   generalize partE m.g 8=q at *
   by_cases hq:q=0
   ·subst hq
    have HZ3:=hide (HZ2.out rfl)
    clear HZ2
    have hix:=fit_ix8 g
    rw[show ((8:Nat):Int)=8 from rfl]
    go_upto_region 6 with fail
    rw[HW.out]
    go_wp2_with fail
    refine HC.out.mono ?_;rintro e w2 ⟨rfl,h2⟩
    have HB2:=hide (HB.out.trans (h2.out.mono HB.out.size))
    clear h2 HC e0 e1
    go_wp2_with fail
    go_roundw
    case rel=>exact⟨8+1,(by first|trivial|rfl),(by first|trivial|rfl),(by first|trivial|rfl),by omega,HB2,HZ3⟩
    case measure=>simp[intOf]<;>omega
   ·have h1:((q:Nat):Int)≠0:=by omega
    have h2':((q:Int) != 0)=true:=by simpa using h1
    have hix:=fit_ix8 g
    rw[show ((8:Nat):Int)=8 from rfl]
    go_upto_region 6 with fail
    rw[HW.out]
    go_wp2_with fail
    refine HC.out.mono ?_;rintro e w2 ⟨rfl,h2⟩
    have hx2:=(h2.out.block wr.heap.size (blk_lt HXB.out)).trans HXB.out
    have e2:=cell_blk hx2 0
    simp at e2
    clear hx2
    go_wp2_with fail
    go_ret2
    exact⟨by rw[HU.out hq];rfl,HB.out.trans (h2.out.mono HB.out.size)⟩
  ·obtain⟨W,hW,hb,hxb,_⟩:=box_new wr #[.string ⟨#[100,97,116,97]⟩,.func (.func 62) #[.pointer (some ⟨g,0,none⟩)] #[]] 160
   have e0:=cell_blk hxb 0
   have e1:=cell_blk hxb 1
   simp at e0 e1
   have HC:=hide (das_m g m W (hide ((h.out.below hbw.out).below hb)) hz)
   have hle:=partE_le m.g 9
   have HU:=hide (fun (hne:partE m.g 9≠0)=>unfit_at (m:=m.g) (k:=9) (by omega) hz0.out hne)
   have HZ2:Hid (partE m.g 9=0→∀j,j<9+1→partE m.g j=0):=fun h0 j hj=>by
    rcases Nat.lt_or_ge j 9 with hlt|hge
    ·exact hz0.out j hlt
    ·obtain rfl:j=9:=by omega
     exact h0
   rw[show dasE m.g=partE m.g 9 from rfl]at HC
   have HB:=hide (hbw.out.trans (hb.mono hbw.out.size));have HW:=hide hW;have HXB:=hide hxb
   clear hb hW hxb hz0 hbw
   generalize partE m.g 9=q at *
   by_cases hq:q=0
   ·subst hq
    have HZ3:=hide (HZ2.out rfl)
    clear HZ2
    have hix:=fit_ix9 g
    rw[show ((9:Nat):Int)=9 from rfl]
    go_upto_region 6 with fail
    rw[HW.out]
    go_wp2_with fail
    refine HC.out.mono ?_;rintro e w2 ⟨rfl,h2⟩
    have HB2:=hide (HB.out.trans (h2.out.mono HB.out.size))
    clear h2 HC e0 e1
    go_wp2_with fail
    go_roundw
    case rel=>exact⟨9+1,(by first|trivial|rfl),(by first|trivial|rfl),(by first|trivial|rfl),by omega,HB2,HZ3⟩
    case measure=>simp[intOf]<;>omega
   ·have h1:((q:Nat):Int)≠0:=by omega
    have h2':((q:Int) != 0)=true:=by simpa using h1
    have hix:=fit_ix9 g
    rw[show ((9:Nat):Int)=9 from rfl]
    go_upto_region 6 with fail
    rw[HW.out]
    go_wp2_with fail
    refine HC.out.mono ?_;rintro e w2 ⟨rfl,h2⟩
    have hx2:=(h2.out.block wr.heap.size (blk_lt HXB.out)).trans HXB.out
    have e2:=cell_blk hx2 0
    simp at e2
    clear hx2
    go_wp2_with fail
    go_ret2
    exact⟨by rw[HU.out hq];rfl,HB.out.trans (h2.out.mono HB.out.size)⟩
  ·have HU:=hide (unfit_none hz0.out)
   clear hz0
   go_wp2_with fail
   go_ret2
   exact⟨by rw[HU.out];rfl,hbw⟩
end Go.Proofs.YtomppgohoplemaaGreat
