/- JudgeUp is proved here: for every input of bulk at most 1048576 the law returns true, and its arguments read as they did. Condition: the bound. -/
import Derived.Test.YtnnokglddolglaaGreatDoorM45
import Derived.Test.YtnnokglddolglaaGreatDoorCards
import Derived.Test.YtnnokglddolglaaGreatDoorTie
import Derived.Deep.DeepHandedRow
import Derived.Lay
import Derived.SevenTiedAt
import Derived.LaidSub
import Derived.MakeChecks
import Derived.Lib.LaidTab
set_option maxRecDepth 100000
namespace Go.Proofs.YtnnokglddolglaaGreatDoor.judgeUp
open Go.ChangeShapes Go.WideShapes Go.ChangeAt Go.RowKit
open Go.ChangeMaps (open_string)

theorem tab_pow10 {W:World} (h:laidMetH Tryz.prog Rows.judgeUpUptoRow.laid W):Lib.TabIs Tryz.prog W "internal/strconv.uint64pow10" .u64 Lib.pow10Tab:=by
 have h1:=laidMetH.filter (λx=>x.1== "internal/strconv.uint64pow10") h;have e:(Rows.judgeUpUptoRow.laid.filter λx=>x.1== "internal/strconv.uint64pow10")=[("internal/strconv.uint64pow10",Lib.tabData .u64 Lib.pow10Tab)]:=by kernel_rfl
 rw[e,MakeChecks.laidMetH_plain _ _ _ (by kernel_rfl)] at h1;exact Lib.tabIs_of_head (g:=1) (t:=267) (e:=180) (n:=20) (by kernel_rfl) (by kernel_rfl) Tryz.underlying267 Tryz.underlying180 (by kernel_rfl) (by kernel_rfl) h1

theorem contract(H:Type)(enc:TypeId × Value->H)(W:World)(base:Nat)(args:Array Value)(n o:List (DataW H))(b:List MemPlace)
 (a:∀(j:Nat) t v,Tryz.f5.params[j]? = some t->args[j]? = some v->Value.okWide Tryz.prog W .any base t v)
 (I:DataW.Whole enc Tryz.prog Tryz.f5.params.toList Rows.judgeUpSpec.vars false W args.toList n o b)
 (E:Rows.uptoSmall H (n++o)=true)
 (d:laidMetH Tryz.prog Rows.judgeUpUptoRow.laid W)
 (z:W.ShapedOpen Tryz.prog):
 Calls Tryz.prog 5 args W λe W'=>∃v,e=.returned v/\Rows.judgeUpSpec.post enc Tryz.prog Tryz.f5 false true false false W args v W':=by
 have x:=I;obtain⟨p,q,r,hV,rfl,h4,h8⟩:=I;have F:DataW.TrodAll enc Tryz.prog W 0 (λ_=>true) true Tryz.f5.params.toList args.toList n p:=r;have k:Hid (Rows.uptoBulkAll (n++o)<=1048576):=zgp E;clear E;rw[Tryz.params5] at F a;obtain⟨B,S,g,L,p0,q0,s,rfl,rfl,h0,N⟩:=trodAll_cons F;obtain⟨A,K,i,h5,p1,q1,rfl,rfl,rfl,h1,r1⟩:=trodAll_cons N;obtain⟨G,h7,f,T,p2,q2,rfl,rfl,rfl,h2,r2⟩:=trodAll_cons r1;obtain⟨D,h6,h,V,p3,q3,rfl,rfl,rfl,P,r3⟩:=trodAll_cons r2;obtain⟨rfl,rfl,rfl⟩:=trodAll_nil r3;obtain rfl:args=#[B,A,G,D]:=by cases args;simp_all
 obtain⟨rfl,rfl⟩:=trodVars_none hV;have u:Rows.uptoBulk g<=1048576:=Nat.le_trans (zca (l:=[g,i,f,h]++[]) (by simp)) k.out;have h9:Rows.uptoBulk i<=1048576:=Nat.le_trans (zca (l:=[g,i,f,h]++[]) (by simp)) k.out;have X:Rows.uptoBulk f<=1048576:=Nat.le_trans (zca (l:=[g,i,f,h]++[]) (by simp)) k.out;have w:Rows.uptoBulk h<=1048576:=Nat.le_trans (zca (l:=[g,i,f,h]++[]) (by simp)) k.out;have c:=k.out;rw[List.append_nil] at c;simp only[Rows.uptoBulkAll] at c;obtain⟨a0,C,J⟩:=zf1 (a 0 24 B rfl rfl) h0;have Q:=zgI J (u);have O:=C.val;subst O;obtain⟨Z,U,c1,rfl⟩:=znF (a 1 58 A rfl rfl) h1;obtain⟨y,rfl,rfl,rfl,w2⟩:=open_int Tryz.underlying30 (a 2 30 G rfl rfl) h2;have z2:0<=y/\y<=4294967295:=by simpa[Lit.wf,IntKind.min,IntKind.max,IntKind.signed,IntKind.bits] using w2
 obtain⟨m,rfl,rfl,rfl,y3⟩:=open_string Tryz.underlying9 (a 3 9 D rfl rfl) P;have l3:m.data.toList.length=m.size:=by simp
 simp only[Rows.uptoBulk] at w;have Y:m.size<=1048576:=by omega
 refine(znT a0 Z U c1 y m W C Q z2 Y (Tryz.laysM146.s1_3 W z) (tab_pow10 d)).mono λe W' ⟨he,hb⟩=>?_
 subst he;exact⟨_,rfl,zlw zoj (by decide+kernel) rfl Tryz.underlying4 rfl x hb rfl⟩

noncomputable def laidWorld(os:Os):World:=World.laidAll Tryz.prog os Rows.judgeUpUptoRow.laid
theorem laid_met(os:Os):laidMet Tryz.prog Rows.judgeUpUptoRow.laid ((laidWorld os).forCall (λ_ _=>0) ⟨#[],#[.agg #[.int .i64 0,.int .i64 0,.slice none 0 0],.agg #[.int .i64 0,.int .i64 0,.int .i64 0],.int .u32 0,.string ByteArray.empty],[]⟩).memory:=
 laidMet_laidAll _ (by kernel_rfl) (by kernel_rfl)
theorem reads(os:Os){H:Type}(enc:TypeId × Value->H):∃a,DataW.whole enc Tryz.prog ((laidWorld os).forCall (λ_ _=>0) ⟨#[],#[.agg #[.int .i64 0,.int .i64 0,.slice none 0 0],.agg #[.int .i64 0,.int .i64 0,.int .i64 0],.int .u32 0,.string ByteArray.empty],[]⟩).memory Tryz.f5.params.toList Rows.judgeUpSpec.vars false #[.agg #[.int .i64 0,.int .i64 0,.slice none 0 0],.agg #[.int .i64 0,.int .i64 0,.int .i64 0],.int .u32 0,.string ByteArray.empty].toList 8=some ([.agg [.lit (.int .i64 0),.lit (.int .i64 0),.nil],.agg [.lit (.int .i64 0),.lit (.int .i64 0),.lit (.int .i64 0)],.lit (.int .u32 0),.lit (.string [])],[],a):=
 ⟨[],by kernel_rfl⟩
theorem lifted(os:Os)(a:os.Started)(H:Type)(enc:TypeId × Value->H)(F:Stop.Interp):
 ReturnsInHanded {} Tryz.checked os 5 .any ((Rows.OpenSpec.upto Rows.judgeUpSpec).preRow enc Tryz.prog Tryz.f5 Rows.judgeUpUptoRow.domain false Rows.judgeUpUptoRow.laid) (((Rows.OpenSpec.upto Rows.judgeUpSpec).at F).post enc Tryz.prog Tryz.f5 false true false false):=by
 obtain⟨f,m⟩:=reads os enc
 refine returnsInHanded_of_row (C:=Tryz.checked) (s:=Rows.OpenSpec.upto Rows.judgeUpSpec) own a (by kernel_rfl) Tryz.func5
  (witness_row_at (enc:=enc) (C:=Tryz.checked) false (laidWorld os) #[.agg #[.int .i64 0,.int .i64 0,.slice none 0 0],.agg #[.int .i64 0,.int .i64 0,.int .i64 0],.int .u32 0,.string ByteArray.empty] (World.laidAll_os _ _ _) (by kernel_rfl) (by kernel_rfl) (by kernel_rfl)
   (OpenSpec.preRow_of_cond 8 m (by kernel_rfl) (λk h=>by cases h;kernel_rfl) (by kernel_rfl) (laid_met os))) ?_
 intro W base args l j b e i _ c _ d g _;exact contract H enc W base args l j b e i (c _ rfl) d g

theorem closedA:(Rows.judgeUpUptoRow.inPlace==Tryz.pinned.checked.prog.inPlace 5)=true:=by kernel_rfl
theorem closedB:(Rows.judgeUpUptoRow.unfollowed==Tryz.pinned.checked.prog.unfollowed 5)=true:=by kernel_rfl
theorem closedC:(Rows.judgeUpUptoRow.recurses==Tryz.pinned.checked.prog.recurses 5)=true:=by kernel_rfl
theorem closedD:(Rows.judgeUpUptoRow.named==Tryz.pinned.checked.prog.varsNamed 5)=true:=by kernel_rfl
theorem closed:joinedFacts Tryz.pinned.checked.prog 5 Tryz.f5 (Rows.OpenSpec.upto Rows.judgeUpSpec).bare Rows.judgeUpUptoRow=true:=by
 unfold joinedFacts
 repeat' (with_reducible refine Bool.and_eq_true_iff.2 ⟨?_,?_⟩)
 all_goals (with_reducible first | exact closedA | exact closedB | exact closedC | exact closedD | skip)
 all_goals kernel_rfl
theorem over:Rows.judgeUpUptoRow.holds Tryz.pinned (Rows.OpenSpec.upto Rows.judgeUpSpec):=
 OpenClaim.holds_of_cond 5 Tryz.f5 rfl rfl rfl rfl rfl rfl rfl ⟨rfl,rfl,rfl,rfl,rfl⟩ rfl rfl rfl rfl rfl (by kernel_rfl) Tryz.func5 closed
  (of_decide_eq_true (by kernel_rfl)) (by unfold Func.isWrapper;first | (rw[if_pos (by decide+kernel)];kernel_rfl) | (rw[if_neg (by decide+kernel)];exact⟨rfl,rfl⟩))
  (λos a H enc _ F=>by rw[OpenClaim.pre_eq_preRow];exact lifted os a H enc F)

theorem plain (f:FuncId) (c:Func) (g:Tryz.pinned.checked.prog.funcNamed "gatewicket/wickkeep.JudgeUp"=some f) (b:Tryz.pinned.checked.prog.funcs[f]? = some c):
 false=Tryz.pinned.checked.prog.looks []/\∀(j:Nat) t,c.params[j]? = some t->Tryz.pinned.checked.prog.wantsStandIn t=false:=by
 obtain rfl:f=5:=Option.some.inj ((show Tryz.prog.funcNamed "gatewicket/wickkeep.JudgeUp"=some 5 by kernel_rfl).symm.trans g) |>.symm;obtain rfl:c=Tryz.f5:=(Option.some.inj (Tryz.func5.symm.trans b)).symm;refine⟨by kernel_rfl,λj t d=>?_⟩;rw[Tryz.params5] at d;have e:t∈[24,58,30,9]:=by simpa using Array.mem_of_getElem? d
 have a:([24,58,30,9].all λu=>!Tryz.prog.wantsStandIn u)=true:=by kernel_rfl
 exact(show Tryz.prog.wantsStandIn t=false by simpa using List.all_eq_true.1 a t e)

theorem proved:Rows.JudgeUpUptoCardSaid:=
 Claim7.holds_tied_plain_at .later [] _ _ _ _ over (λ_ h=>by cases h) (by kernel_rfl) (λ_ h=>by cases h) judgeUpUpto_row_tie rfl ⟨rfl,rfl⟩ (by kernel_rfl) rfl plain (by kernel_rfl)
#print axioms proved
end Go.Proofs.YtnnokglddolglaaGreatDoor.judgeUp
