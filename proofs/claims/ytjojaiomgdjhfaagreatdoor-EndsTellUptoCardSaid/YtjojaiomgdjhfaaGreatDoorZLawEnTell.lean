/- The statement EndsTell (its card): for every input the call returns true, and the arguments read as before. Condition: the listed variables are as the program's text lays them (the card ties them). -/
import Derived.Test.YtjojaiomgdjhfaaGreatDoorZCommonT
import Derived.Test.YtjojaiomgdjhfaaGreatDoorZTE1
import Derived.Test.YtjojaiomgdjhfaaGreatDoorZP1
namespace Go.Proofs.YtjojaiomgdjhfaaGreatDoor.endsTell
open Go.ChangeShapes Go.WideShapes Go.ChangeAt Go.RowKit
open Go.ChangeMaps (open_string shut_string)
open Go AE
set_option linter.unusedVariables false
set_option maxRecDepth 100000
/-- The code of the law's function tells true where the printed one does. -/
theorem told (k:Nat) (x0:F.TNode) (h:F.law21_EndsTell k x0 = some true):SF SY.Zs 4 [SY.e0 x0] [] (.bool true) [] :=
  SY.k133 k SY.E_law21_EndsTell (List.mem_cons_self) x0 true ⟨[(0,.raw (.bool true))],[],[],[],[]⟩ h (by kernel_rfl)
def T:List TypeId:=[22,3,26,24,9]
theorem hT:plainT tab T = true:=by kernel_rfl
theorem laidOut:laidOutB Tryz.prog = true:=by kernel_rfl
theorem readable:∀ t ∈ [26],Tryz.prog.readableRec t = true∧t < Tryz.prog.types.size:=by
  intro t ht
  simp only [List.mem_cons,List.not_mem_nil,or_false] at ht
  rcases ht with rfl
  · exact ⟨by kernel_rfl,of_decide_eq_true (by kernel_rfl)⟩
theorem node_bulk {H:Type} {t:TypeId} {d:DataW H} (h:Dwf tab t d):(t = 26→(F.walkS (dN d)).length ≤ Rows.uptoBulk d)∧(t = 24→(F.walkL (dNs d)).length + 1 ≤ Rows.uptoBulk d):=by
  induction h with
  | bool h=>exact ⟨(fun e=>by subst e; rw [tN] at h; cases h),(fun e=>by subst e; rw [tL] at h; cases h)⟩
  | int h hw=>exact ⟨(fun e=>by subst e; rw [tN] at h; cases h),(fun e=>by subst e; rw [tL] at h; cases h)⟩
  | str h hw=>exact ⟨(fun e=>by subst e; rw [tN] at h; cases h),(fun e=>by subst e; rw [tL] at h; cases h)⟩
  | nilp h=>exact ⟨(fun e=>by subst e; rw [tN] at h; cases h),(fun e=>by subst e; rw [tL] at h; cases h)⟩
  | ptr h _ _=>exact ⟨(fun e=>by subst e; rw [tN] at h; cases h),(fun e=>by subst e; rw [tL] at h; cases h)⟩
  | array h _ _ _=>exact ⟨(fun e=>by subst e; rw [tN] at h; cases h),(fun e=>by subst e; rw [tL] at h; cases h)⟩
  | nils h=>exact ⟨(fun e=>by subst e; rw [tN] at h; cases h),fun _=>by simp [dNs,F.walkL,Rows.uptoBulk]⟩
  | @slice t e es rest h hl he ih=>
    refine ⟨(fun e=>by subst e; rw [tN] at h; cases h),fun e=>?_⟩
    subst e
    rw [tL] at h; cases h
    have key:∀ l:List (DataW H),(∀ d ∈ l,d ∈ es)→(F.walkL (dNl l)).length ≤ Rows.uptoBulkAll l:=by
      intro l
      induction l with
      | nil=>intro _; simp [dNl,F.walkL]
      | cons d r ihl=>
        intro hm
        have k1:=ihl (fun d hd=>hm d (by simp [hd]))
        have q1:=(ih d (hm d (by simp))).1 rfl
        simp only [dNl,F.walkL,List.length_append,Rows.uptoBulkAll]
        omega
    have:=key es (fun d h=>h)
    simp only [dNs,Rows.uptoBulk]
    omega
  | @struct t fs ds h hl he ih=>
    refine ⟨fun e=>?_,(fun e=>by subst e; rw [tL] at h; cases h)⟩
    subst e
    rw [tN] at h; cases h
    obtain ⟨a,b,c,s,l,rfl⟩:=fiveN hl
    have q1:=(ih 4 (4,24) l rfl rfl).2 rfl
    simp only [dN,dN5,F.walkS,List.length_cons,Rows.uptoBulk,Rows.uptoBulkAll]
    omega
theorem contract (H:Type) (enc:TypeId × Value→H) (W:World) (base:Nat) (args:Array Value) (ds gs:List (DataW H)) (before:List MemPlace)
    (hval:∀ (j:Nat) t v,Tryz.f4.params[j]? = some t→args[j]? = some v→Value.okWide Tryz.prog W .any base t v)
    (hW:DataW.Whole enc Tryz.prog Tryz.f4.params.toList Rows.endsTellSpec.vars false W args.toList ds gs before) (hL:laidMetH Tryz.prog laidT W) (hk:Rows.uptoSmall H (ds ++ gs) = true) :
    Calls Tryz.prog 4 args W fun e W'=>∃ v,e = .returned v∧Rows.endsTellSpec.post enc Tryz.prog Tryz.f4 false true false false W args v W':=by
  have hW':=hW
  obtain ⟨p,q,hA0,hV,rfl,hfz,hnd⟩:=hW
  have hA:DataW.TrodAll enc Tryz.prog W 0 (fun _=>true) true Tryz.f4.params.toList args.toList ds p:=hA0
  rw [Tryz.params4] at hA hval
  have hback:=hA
  obtain ⟨v0,vs0,d0,ds0,p0,q0,hargs,rfl,rfl,h0,r0⟩:=trodAll_cons hA
  obtain ⟨rfl,rfl,rfl⟩:=trodAll_nil r0
  obtain rfl:args = #[v0]:=by cases args; simp_all
  obtain ⟨rfl,rfl⟩:=trodVars_none hV
  have f0:V (Gh.start W) (AE.av tab 26 d0) v0:=arg_V tb_ok hT (by simp [T]) (hval 0 26 v0 rfl rfl) h0
  have g0:Dwf tab 26 d0:=by
    obtain ⟨fuel,hf⟩:=h0
    exact trod_dwf tb_ok hT fuel 26 _ _ (by simp [T]) hf
  rw [node_av g0] at f0
  clear hA0
  have hbk:Rows.uptoBulkAll ([d0] ++ []) ≤ 1048576:=of_decide_eq_true hk
  simp only [List.append_nil,Rows.uptoBulkAll] at hbk
  have b0:(F.walkS (dN d0)).length ≤ 10000000:=by have:=(node_bulk g0).1 rfl; omega
  obtain ⟨k,hkk⟩:=F.tell_ex (dN d0) b0
  have sf:=told k (dN d0) hkk
  have hv:VL (Gh.start W) [SY.e0 (dN d0)] (#[v0]:Array Value).toList :=
    ⟨_,_,rfl,f0,rfl⟩
  have walk:Calls Tryz.prog 4 #[v0] W fun e w'=>e = .returned (.bool true)∧Below W.heap.size W w':=law_SF sf hv (glob hL)
  refine walk.mono fun e W' ⟨he,bel⟩=>?_
  subst he
  exact ⟨_,rfl,_,_,_,[],_,[],hW',trodAll_mk1 (shut_bool Tryz.underlying4 _),back_all laidOut bel _ _ _ _ readable hback (DataW.TrodAll.lt hback),rfl,bel.frame _,fun h=>by cases h⟩
theorem reads (os:Os) {H:Type} (enc:TypeId × Value→H):∃ places,DataW.whole enc Tryz.prog ((laidWorld os).forCall (fun _ _=>0) ⟨#[],#[Value.agg #[.int .i64 0,.int .i64 0,.int .i64 0,.string ⟨#[]⟩,.slice none 0 0]],[]⟩).memory Tryz.f4.params.toList Rows.endsTellSpec.vars false #[Value.agg #[.int .i64 0,.int .i64 0,.int .i64 0,.string ⟨#[]⟩,.slice none 0 0]].toList 8 = some ([.agg [.lit (.int .i64 0),.lit (.int .i64 0),.lit (.int .i64 0),.lit (.string []),.nil]],[],places) :=
  ⟨[],by kernel_rfl⟩
theorem lifted (os:Os) (started:os.Started) (H:Type) (enc:TypeId × Value→H) (F:Stop.Interp) :
    ReturnsInHanded {} Tryz.checked os 4 .any ((Rows.OpenSpec.upto Rows.endsTellSpec).preRow enc Tryz.prog Tryz.f4 Rows.endsTellUptoRow.domain false Rows.endsTellUptoRow.laid) (((Rows.OpenSpec.upto Rows.endsTellSpec).at F).post enc Tryz.prog Tryz.f4 false true false false):=by
  obtain ⟨places,hx⟩:=reads os enc
  refine returnsInHanded_of_row (C:=Tryz.checked) (s:=Rows.OpenSpec.upto Rows.endsTellSpec) own started (by kernel_rfl) Tryz.func4
    (witness_row_atRef (enc:=enc) (C:=Tryz.checked) false (laidWorld os) #[Value.agg #[.int .i64 0,.int .i64 0,.int .i64 0,.string ⟨#[]⟩,.slice none 0 0]] rfl (by kernel_rfl) (by kernel_rfl) (by kernel_rfl)
      (OpenSpec.preRow_of_cond 8 hx (by kernel_rfl) (fun k hk=>by cases hk; kernel_rfl) (by kernel_rfl) (laid_met os _))) ?_
  intro W base args ds gs before hval hW _ hk _ hL _ _
  exact contract H enc W base args ds gs before hval hW hL (hk _ rfl)
theorem said:Rows.EndsTellUptoSaid :=
  OpenClaim.holds_of_cond 4 Tryz.f4 rfl rfl rfl rfl rfl rfl rfl ⟨rfl,rfl,rfl,rfl,rfl⟩ rfl rfl rfl rfl rfl (by kernel_rfl) Tryz.func4 (by kernel_rfl)
    (of_decide_eq_true (by kernel_rfl)) (by unfold Func.isWrapper; first | (rw [if_pos (by decide +kernel)]; kernel_rfl) | (rw [if_neg (by decide +kernel)]; exact ⟨rfl,rfl⟩))
    (fun os started H enc _ F=>by rw [OpenClaim.pre_eq_preRow]; exact lifted os started H enc F)
theorem plain (f:FuncId) (fn:Func) (hf:YtjojaiomgdjhfaaGreatDoor.Tryz.pinned.checked.prog.funcNamed "marline/marlinelaw21.EndsTell" = some f) (hfn:YtjojaiomgdjhfaaGreatDoor.Tryz.pinned.checked.prog.funcs[f]? = some fn) :
    false = YtjojaiomgdjhfaaGreatDoor.Tryz.pinned.checked.prog.looks []∧∀ (j:Nat) t,fn.params[j]? = some t→YtjojaiomgdjhfaaGreatDoor.Tryz.pinned.checked.prog.wantsStandIn t = false:=by
  obtain rfl:f = 4:=Option.some.inj ((show Tryz.prog.funcNamed "marline/marlinelaw21.EndsTell" = some 4 by kernel_rfl).symm.trans hf) |>.symm
  obtain rfl:fn = Tryz.f4:=(Option.some.inj (Tryz.func4.symm.trans hfn)).symm
  refine ⟨by kernel_rfl,fun j t ht=>?_⟩
  rw [Tryz.params4] at ht
  have h:t = 26:=by simpa using Array.mem_of_getElem? ht
  rcases h with rfl
  · exact (show Tryz.prog.wantsStandIn 26 = false by kernel_rfl)
end Go.Proofs.YtjojaiomgdjhfaaGreatDoor.endsTell
namespace Go.Proofs.YtjojaiomgdjhfaaGreatDoor
theorem endsTellUpto_holds:Rows.EndsTellUptoCardSaid :=
  Claim7.holds_tied_plain_at .later [] _ _ _ _ endsTell.said (fun _ h=>by cases h) (by kernel_rfl) (fun _ h=>by cases h) endsTellUpto_row_tie rfl ⟨rfl,rfl⟩ (by kernel_rfl) rfl endsTell.plain (by kernel_rfl)
#print axioms endsTellUpto_holds
end Go.Proofs.YtjojaiomgdjhfaaGreatDoor
