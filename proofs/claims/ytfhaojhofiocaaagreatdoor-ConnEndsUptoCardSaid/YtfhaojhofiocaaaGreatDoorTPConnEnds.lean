/- ConnEnds is proved here: for every input of bulk at most 1048576 the law returns true, and its arguments read as they did. Condition: the bound. -/
import Derived.Test.YtfhaojhofiocaaaGreatDoorM30
import Derived.Test.YtfhaojhofiocaaaGreatDoorCards
import Derived.Test.YtfhaojhofiocaaaGreatDoorTie
import Derived.Deep.DeepHandedRow
import Derived.Lay
import Derived.SevenTiedAt
import Derived.LaidSub
import Derived.MakeChecks
import Derived.Lib.LaidTab
set_option maxRecDepth 100000
namespace Go.Proofs.YtfhaojhofiocaaaGreatDoor.connEnds
open Go.ChangeShapes Go.WideShapes Go.ChangeAt Go.RowKit
open Go.ChangeMaps (open_string)

theorem zsZ {W:World} (h:laidMetH Tryz.prog Rows.connEndsUptoRow.laid W):Lib.TabIs Tryz.prog W "internal/strconv.uint64pow10" .u64 Lib.pow10Tab:=by
 have h1:=laidMetH.filter (λx=>x.1== "internal/strconv.uint64pow10") h;have e:(Rows.connEndsUptoRow.laid.filter λx=>x.1== "internal/strconv.uint64pow10")=[("internal/strconv.uint64pow10",Lib.tabData .u64 Lib.pow10Tab)]:=by kernel_rfl
 rw[e,MakeChecks.laidMetH_plain _ _ _ (by kernel_rfl)] at h1;exact Lib.tabIs_of_head (g:=1) (t:=231) (e:=93) (n:=20) (by kernel_rfl) (by kernel_rfl) Tryz.underlying231 Tryz.underlying93 (by kernel_rfl) (by kernel_rfl) h1

theorem zvM(H:Type)(enc:TypeId × Value->H)(W:World)(base:Nat)(args:Array Value)(h n:List (DataW H))(b:List MemPlace)
 (a:∀(j:Nat) t v,Tryz.f3.params[j]? = some t->args[j]? = some v->Value.okWide Tryz.prog W .any base t v)
 (y:DataW.Whole enc Tryz.prog Tryz.f3.params.toList Rows.connEndsSpec.vars false W args.toList h n b)
 (z:Rows.uptoSmall H (h++n)=true)
 (d:laidMetH Tryz.prog Rows.connEndsUptoRow.laid W)
 (w:W.ShapedOpen Tryz.prog):
 Calls Tryz.prog 3 args W λe W'=>∃v,e=jC v/\Rows.connEndsSpec.post enc Tryz.prog Tryz.f3 false true false false W args v W':=by
 have s:=y;obtain⟨p,q,m,hV,rfl,O,U⟩:=y;have B:DataW.TrodAll enc Tryz.prog W 0 (λ_=>true) true Tryz.f3.params.toList args.toList h p:=m;have k:Hid (Rows.uptoBulkAll (h++n)<=1048576):=zpZ z;clear z;rw[Tryz.params3] at B a;obtain⟨E,Y,i,K,p0,q0,o,rfl,rfl,J,P⟩:=trodAll_cons B;obtain⟨A,I,g,T,p1,q1,rfl,rfl,rfl,h1,r1⟩:=trodAll_cons P;obtain⟨C,L,f,h3,p2,q2,rfl,rfl,rfl,h2,r2⟩:=trodAll_cons r1;obtain⟨rfl,rfl,rfl⟩:=trodAll_nil r2;obtain rfl:args=#[E,A,C]:=by cases args;simp_all
 obtain⟨rfl,rfl⟩:=trodVars_none hV;have r:Rows.uptoBulk i<=1048576:=Nat.le_trans (zgC (l:=[i,g,f]++[]) (by simp)) k.out;have h4:Rows.uptoBulk g<=1048576:=Nat.le_trans (zgC (l:=[i,g,f]++[]) (by simp)) k.out;have u:Rows.uptoBulk f<=1048576:=Nat.le_trans (zgC (l:=[i,g,f]++[]) (by simp)) k.out;have c:=k.out;rw[List.append_nil] at c;simp only[Rows.uptoBulkAll] at c;obtain⟨X,x,F⟩:=zpt (a 0 24 E rfl rfl) J;have V:=zqJ F (r);have Q:=x.val;subst Q;obtain⟨a1,G,c1,rfl⟩:=zmU (a 1 26 A rfl rfl) h1;obtain⟨a2,D,S⟩:=zqt (a 2 27 C rfl rfl) h2;have N:=zqE S (u);have n2:=D.val;subst n2;refine(zlX X a1 G c1 a2 W x V D N (Tryz.laysM146.s1_3 W w) (zsZ d)).mono λe W' ⟨Z,hb⟩=>?_
 subst Z;exact⟨_,rfl,zvQ zx6 (by decide+kernel) rfl Tryz.underlying4 rfl s hb rfl⟩

noncomputable def zhj(os:Os):World:=World.laidAll Tryz.prog os Rows.connEndsUptoRow.laid
theorem zv0(os:Os):laidMet Tryz.prog Rows.connEndsUptoRow.laid ((zhj os).forCall (λ_ _=>0) ⟨#[],#[.agg #[jA 0,jA 0,jD 0 0],.agg #[jA 0,jA 0,jA 0],jD 0 0],[]⟩).memory:=
 laidMet_laidAll _ (by kernel_rfl) (by kernel_rfl)
theorem zzX(os:Os){H:Type}(enc:TypeId × Value->H):∃a,DataW.whole enc Tryz.prog ((zhj os).forCall (λ_ _=>0) ⟨#[],#[.agg #[jA 0,jA 0,jD 0 0],.agg #[jA 0,jA 0,jA 0],jD 0 0],[]⟩).memory Tryz.f3.params.toList Rows.connEndsSpec.vars false #[.agg #[jA 0,jA 0,jD 0 0],.agg #[jA 0,jA 0,jA 0],jD 0 0].toList 8=some ([.agg [.lit (.int .i64 0),.lit (.int .i64 0),.nil],.agg [.lit (.int .i64 0),.lit (.int .i64 0),.lit (.int .i64 0)],.nil],[],a):=
 ⟨[],by kernel_rfl⟩
theorem zzz(os:Os)(a:os.Started)(H:Type)(enc:TypeId × Value->H)(F:Stop.Interp):
 ReturnsInHanded {} Tryz.checked os 3 .any ((Rows.OpenSpec.upto Rows.connEndsSpec).preRow enc Tryz.prog Tryz.f3 Rows.connEndsUptoRow.domain false Rows.connEndsUptoRow.laid) (((Rows.OpenSpec.upto Rows.connEndsSpec).at F).post enc Tryz.prog Tryz.f3 false true false false):=by
 obtain⟨f,m⟩:=zzX os enc
 refine returnsInHanded_of_row (C:=Tryz.checked) (s:=Rows.OpenSpec.upto Rows.connEndsSpec) own a (by kernel_rfl) Tryz.func3
  (witness_row_at (enc:=enc) (C:=Tryz.checked) false (zhj os) #[.agg #[jA 0,jA 0,jD 0 0],.agg #[jA 0,jA 0,jA 0],jD 0 0] (World.laidAll_os _ _ _) (by kernel_rfl) (by kernel_rfl) (by kernel_rfl)
   (OpenSpec.preRow_of_cond 8 m (by kernel_rfl) (λk h=>by cases h;kernel_rfl) (by kernel_rfl) (zv0 os))) ?_
 intro W base args l j b e i _ c _ d g _;exact zvM H enc W base args l j b e i (c _ rfl) d g

theorem zxO:(Rows.connEndsUptoRow.inPlace==Tryz.pinned.checked.prog.inPlace 3)=true:=by kernel_rfl
theorem zx1:(Rows.connEndsUptoRow.unfollowed==Tryz.pinned.checked.prog.unfollowed 3)=true:=by kernel_rfl
theorem zxb:(Rows.connEndsUptoRow.recurses==Tryz.pinned.checked.prog.recurses 3)=true:=by kernel_rfl
theorem zye:(Rows.connEndsUptoRow.named==Tryz.pinned.checked.prog.varsNamed 3)=true:=by kernel_rfl
theorem closed:joinedFacts Tryz.pinned.checked.prog 3 Tryz.f3 (Rows.OpenSpec.upto Rows.connEndsSpec).bare Rows.connEndsUptoRow=true:=by
 unfold joinedFacts
 repeat' (with_reducible refine Bool.and_eq_true_iff.2 ⟨?_,?_⟩)
 all_goals (with_reducible first | exact zxO | exact zx1 | exact zxb | exact zye | skip)
 all_goals kernel_rfl
theorem over:Rows.connEndsUptoRow.holds Tryz.pinned (Rows.OpenSpec.upto Rows.connEndsSpec):=
 OpenClaim.holds_of_cond 3 Tryz.f3 rfl rfl rfl rfl rfl rfl rfl ⟨rfl,rfl,rfl,rfl,rfl⟩ rfl rfl rfl rfl rfl (by kernel_rfl) Tryz.func3 closed
  (of_decide_eq_true (by kernel_rfl)) (by unfold Func.isWrapper;first | (rw[if_pos (by decide+kernel)];kernel_rfl) | (rw[if_neg (by decide+kernel)];exact⟨rfl,rfl⟩))
  (λos a H enc _ F=>by rw[OpenClaim.pre_eq_preRow];exact zzz os a H enc F)

theorem plain (f:FuncId) (c:Func) (g:Tryz.pinned.checked.prog.funcNamed "gatewicket/wickkeep.ConnEnds"=some f) (b:Tryz.pinned.checked.prog.funcs[f]? = some c):
 false=Tryz.pinned.checked.prog.looks []/\∀(j:Nat) t,c.params[j]? = some t->Tryz.pinned.checked.prog.wantsStandIn t=false:=by
 obtain rfl:f=3:=Option.some.inj ((show Tryz.prog.funcNamed "gatewicket/wickkeep.ConnEnds"=some 3 by kernel_rfl).symm.trans g) |>.symm;obtain rfl:c=Tryz.f3:=(Option.some.inj (Tryz.func3.symm.trans b)).symm;refine⟨by kernel_rfl,λj t d=>?_⟩;rw[Tryz.params3] at d;have e:t∈[24,26,27]:=by simpa using Array.mem_of_getElem? d
 have a:([24,26,27].all λu=>!Tryz.prog.wantsStandIn u)=true:=by kernel_rfl
 exact(show Tryz.prog.wantsStandIn t=false by simpa using List.all_eq_true.1 a t e)

theorem proved:Rows.ConnEndsUptoCardSaid:=
 Claim7.holds_tied_plain_at .later [] _ _ _ _ over (λ_ h=>by cases h) (by kernel_rfl) (λ_ h=>by cases h) connEndsUpto_row_tie rfl ⟨rfl,rfl⟩ (by kernel_rfl) rfl plain (by kernel_rfl)
#print axioms proved
end Go.Proofs.YtfhaojhofiocaaaGreatDoor.connEnds
