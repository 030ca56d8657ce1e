/- Part of the proof: Pyr Pyr2. Conditions: as each states. -/
import Derived.Test.YtmbdghclhpboaaaGreatPb22
set_option linter.all false
set_option maxRecDepth 100000
namespace Go.Proofs.YtmbdghclhpboaaaGreat
open Ev
def dgt(x i:Int):Int:=IntKind.u64.wrap (IntKind.i64.wrap ((BitVec.ofInt IntKind.i64.bits (x.fdiv (2 ^ min i.toNat IntKind.i64.bits)) &&& BitVec.ofInt IntKind.i64.bits 1).toNat:Int))
def orU(a b:Int):Int:=IntKind.u64.wrap ((BitVec.ofInt IntKind.u64.bits a ||| BitVec.ofInt IntKind.u64.bits b).toNat:Int)
def codeS(x y code i:Int):Int:=orU (orU (IntKind.u64.wrap (code * 2 ^ min (Int.toNat 2) IntKind.u64.bits)) (IntKind.u64.wrap (dgt y i * 2 ^ min (Int.toNat 1) IntKind.u64.bits))) (dgt x i)
def codeR(x y:Int):Nat→Int→Int
 | 0,code=>code
 | k+1,code=>codeR x y k (codeS x y code (((k+1:Nat):Int) - 1))
theorem ccode{c:Cel}{S:List Nat}{H:List AObj}{K:AV→List AObj→Prop}(k:K (.tuple [uA (if c.right then codeR c.x c.y c.l.toNat 0 else 0),bA c.right]) H):CP S 322 [celA c] H K:=by
 refine CallS.pure ?_ (fun _=>rfl) (fun _=>rfl) k
 refine fn_ok ev_ok rfl ?_
 repeat' ((conv=>whnf);first|with_reducible apply brP_of<;>intro _|refine WpS.drawn ev_ok rfl rfl ?_|with_reducible refine And.intro (AgP.mk ⟨_,rfl,rfl⟩) ?_|refine cright ?_)
 all_goals conv=>whnf
 ·rename_i hr
  have hb:=Cel.bd hr
  rw[hr]
  refine loopP ev_ok rfl (fun s:Nat×Int=>[(1,.ptr 0 0),(4,uA s.2),(5,iA ((s.1:Int) - 1))]) (fun s=>[.cells [iA c.l,iA c.x,iA c.y] 232])
   (fun s=>s.1≤16∧codeR c.x c.y s.1 s.2=codeR c.x c.y c.l.toNat 0) (fun s=>s.1) (c.l.toNat,0) ⟨by show c.l.toNat≤16;omega,rfl⟩ [0] ?_ ?_
  ·exact ⟨rfl,⟨⟨rfl,rfl⟩,⟨rfl,rfl⟩,⟨rfl,subInt rfl (wrap_eq (by show c.l - 1=((c.l.toNat:Nat):Int) - 1∧_;omega))⟩,tU⟩,⟨⟨_,rfl,rfl⟩,tU⟩⟩
  ·rintro ⟨k,code⟩ ⟨hk0,hr2⟩
   simp only[] at hk0 hr2
   rcases k with _|k
   ·conv=>whnf
    rw[←hr2]
    rfl
   ·conv=>whnf
    refine brP_of (fun _=>?_) (fun h=>absurd (of_decide_eq_false h) (by simp<;>omega))
    repeat' ((conv=>whnf);first|with_reducible apply brP_of<;>intro _|refine WpS.drawn ev_ok rfl rfl ?_|with_reducible refine And.intro (AgP.mk ⟨_,rfl,rfl⟩) ?_|refine OpP.shl rfl rfl (by omega) ?_|refine OpP.shr rfl rfl (by simp<;>omega) ?_)
    conv=>whnf
    exact ⟨(k,codeS c.x c.y code (((k+1:Nat):Int) - 1)),[0],⟨⟨by show k≤16;omega,hr2⟩,by show k<k+1;omega⟩,rfl,⟨⟨rfl,rfl⟩,⟨rfl,rfl⟩,⟨rfl,subInt rfl (wrap_eq (by show ((k+1:Nat):Int) - 1 - 1=((k:Nat):Int) - 1∧_;omega))⟩,tU⟩,⟨⟨_,rfl,rfl⟩,tU⟩⟩
 ·rename_i hr
  rw[hr]
  rfl
abbrev uK(i:Int):Value:=.int .u64 i
abbrev iC(i:Int):Value:=.int .i64 i
theorem keyE_u64:KeyE ev 47 uK:=KeyE.int ⟨_,rfl,rfl⟩
theorem mapT_pyr:MapT ev 334 47 (iA 0):=⟨_,_,_,_,rfl,rfl,rfl,rfl,rfl⟩
def pyrH(Ms:Nat→List (Int×Int)):List AObj:=[.cells [.map 1,.map 2,.map 3,.map 4,.map 5,.map 6,.map 7,.map 8,.map 9,.map 10,.map 11,.map 12,.map 13,.map 14,.map 15,.map 16,.map 17] 337,.mrow (mE uK iC (Ms 0)),.mrow (mE uK iC (Ms 1)),.mrow (mE uK iC (Ms 2)),.mrow (mE uK iC (Ms 3)),.mrow (mE uK iC (Ms 4)),.mrow (mE uK iC (Ms 5)),.mrow (mE uK iC (Ms 6)),.mrow (mE uK iC (Ms 7)),.mrow (mE uK iC (Ms 8)),.mrow (mE uK iC (Ms 9)),.mrow (mE uK iC (Ms 10)),.mrow (mE uK iC (Ms 11)),.mrow (mE uK iC (Ms 12)),.mrow (mE uK iC (Ms 13)),.mrow (mE uK iC (Ms 14)),.mrow (mE uK iC (Ms 15)),.mrow (mE uK iC (Ms 16))]
def cntM(M:List (Int×Int))(code by_:Int):List (Int×Int):=if IntKind.i64.wrap ((aget code M).getD 0+by_)=0 then adel code M else aput code (IntKind.i64.wrap ((aget code M).getD 0+by_)) M
def turnMs(Ms:Nat→List (Int×Int))(l:Nat)(code by_:Int):Nat→List (Int×Int):=fun i=>if i=l then cntM (Ms l) code by_ else Ms i
theorem cnt_del{M:List (Int×Int)}{code by_ a:Int}(ha:(aget code M).getD 0=a)(h:(IntKind.i64.wrap (a+by_)==0)=true):cntM M code by_=adel code M:=by
 unfold cntM
 rw[ha,if_pos (by simpa using h)]
theorem cnt_put{M:List (Int×Int)}{code by_ a:Int}(ha:(aget code M).getD 0=a)(h:(IntKind.i64.wrap (a+by_)==0)=false):cntM M code by_=aput code (IntKind.i64.wrap (a+by_)) M:=by
 unfold cntM
 rw[ha,if_neg (by simpa using h)]
theorem pturn_0{Ms:Nat→List (Int×Int)}{code by_:Int}:CP [] 237 [.ptr 0 0,iA 0,uA code,iA by_] (pyrH Ms) (fun v H'=>v=undefV∧∃G,H'=pyrH (turnMs Ms 0 code by_)++G):=by
 refine fn_ok ev_ok rfl ?_
 (repeat' ((conv=>whnf);first|with_reducible apply brP_of<;>intro _|refine IdxP.of (k:=0) rfl (by omega) ?_|refine OpP.look1 _ mapT_pyr keyE_u64 rfl rfl rfl rfl (fun a ha=>?_) (fun ha=>?_)|refine OpP.mdel (key:=code) rfl rfl rfl mapT_pyr keyE_u64 rfl rfl ?_|refine OpP.mput (key:=code) (a:=IntKind.i64.wrap (a+by_)) mapT_pyr keyE_u64 rfl rfl rfl rfl rfl rfl rfl rfl ?_|refine OpP.mput (key:=code) (a:=IntKind.i64.wrap (0+by_)) mapT_pyr keyE_u64 rfl rfl rfl rfl rfl rfl rfl rfl ?_|refine fn_ok ev_ok rfl ?_));all_goals (try conv=>whnf);all_goals (rename_i h;first|exact ⟨rfl,[],by rw[←cnt_del (by rw[ha];rfl) h];rfl⟩|exact ⟨rfl,[],by rw[←cnt_put (by rw[ha];rfl) h];rfl⟩)
theorem pturn_1{Ms:Nat→List (Int×Int)}{code by_:Int}:CP [] 237 [.ptr 0 0,iA 1,uA code,iA by_] (pyrH Ms) (fun v H'=>v=undefV∧∃G,H'=pyrH (turnMs Ms 1 code by_)++G):=by
 refine fn_ok ev_ok rfl ?_
 (repeat' ((conv=>whnf);first|with_reducible apply brP_of<;>intro _|refine IdxP.of (k:=1) rfl (by omega) ?_|refine OpP.look1 _ mapT_pyr keyE_u64 rfl rfl rfl rfl (fun a ha=>?_) (fun ha=>?_)|refine OpP.mdel (key:=code) rfl rfl rfl mapT_pyr keyE_u64 rfl rfl ?_|refine OpP.mput (key:=code) (a:=IntKind.i64.wrap (a+by_)) mapT_pyr keyE_u64 rfl rfl rfl rfl rfl rfl rfl rfl ?_|refine OpP.mput (key:=code) (a:=IntKind.i64.wrap (0+by_)) mapT_pyr keyE_u64 rfl rfl rfl rfl rfl rfl rfl rfl ?_|refine fn_ok ev_ok rfl ?_));all_goals (try conv=>whnf);all_goals (rename_i h;first|exact ⟨rfl,[],by rw[←cnt_del (by rw[ha];rfl) h];rfl⟩|exact ⟨rfl,[],by rw[←cnt_put (by rw[ha];rfl) h];rfl⟩)
theorem pturn_2{Ms:Nat→List (Int×Int)}{code by_:Int}:CP [] 237 [.ptr 0 0,iA 2,uA code,iA by_] (pyrH Ms) (fun v H'=>v=undefV∧∃G,H'=pyrH (turnMs Ms 2 code by_)++G):=by
 refine fn_ok ev_ok rfl ?_
 (repeat' ((conv=>whnf);first|with_reducible apply brP_of<;>intro _|refine IdxP.of (k:=2) rfl (by omega) ?_|refine OpP.look1 _ mapT_pyr keyE_u64 rfl rfl rfl rfl (fun a ha=>?_) (fun ha=>?_)|refine OpP.mdel (key:=code) rfl rfl rfl mapT_pyr keyE_u64 rfl rfl ?_|refine OpP.mput (key:=code) (a:=IntKind.i64.wrap (a+by_)) mapT_pyr keyE_u64 rfl rfl rfl rfl rfl rfl rfl rfl ?_|refine OpP.mput (key:=code) (a:=IntKind.i64.wrap (0+by_)) mapT_pyr keyE_u64 rfl rfl rfl rfl rfl rfl rfl rfl ?_|refine fn_ok ev_ok rfl ?_));all_goals (try conv=>whnf);all_goals (rename_i h;first|exact ⟨rfl,[],by rw[←cnt_del (by rw[ha];rfl) h];rfl⟩|exact ⟨rfl,[],by rw[←cnt_put (by rw[ha];rfl) h];rfl⟩)
theorem pturn_3{Ms:Nat→List (Int×Int)}{code by_:Int}:CP [] 237 [.ptr 0 0,iA 3,uA code,iA by_] (pyrH Ms) (fun v H'=>v=undefV∧∃G,H'=pyrH (turnMs Ms 3 code by_)++G):=by
 refine fn_ok ev_ok rfl ?_
 (repeat' ((conv=>whnf);first|with_reducible apply brP_of<;>intro _|refine IdxP.of (k:=3) rfl (by omega) ?_|refine OpP.look1 _ mapT_pyr keyE_u64 rfl rfl rfl rfl (fun a ha=>?_) (fun ha=>?_)|refine OpP.mdel (key:=code) rfl rfl rfl mapT_pyr keyE_u64 rfl rfl ?_|refine OpP.mput (key:=code) (a:=IntKind.i64.wrap (a+by_)) mapT_pyr keyE_u64 rfl rfl rfl rfl rfl rfl rfl rfl ?_|refine OpP.mput (key:=code) (a:=IntKind.i64.wrap (0+by_)) mapT_pyr keyE_u64 rfl rfl rfl rfl rfl rfl rfl rfl ?_|refine fn_ok ev_ok rfl ?_));all_goals (try conv=>whnf);all_goals (rename_i h;first|exact ⟨rfl,[],by rw[←cnt_del (by rw[ha];rfl) h];rfl⟩|exact ⟨rfl,[],by rw[←cnt_put (by rw[ha];rfl) h];rfl⟩)
theorem pturn_4{Ms:Nat→List (Int×Int)}{code by_:Int}:CP [] 237 [.ptr 0 0,iA 4,uA code,iA by_] (pyrH Ms) (fun v H'=>v=undefV∧∃G,H'=pyrH (turnMs Ms 4 code by_)++G):=by
 refine fn_ok ev_ok rfl ?_
 (repeat' ((conv=>whnf);first|with_reducible apply brP_of<;>intro _|refine IdxP.of (k:=4) rfl (by omega) ?_|refine OpP.look1 _ mapT_pyr keyE_u64 rfl rfl rfl rfl (fun a ha=>?_) (fun ha=>?_)|refine OpP.mdel (key:=code) rfl rfl rfl mapT_pyr keyE_u64 rfl rfl ?_|refine OpP.mput (key:=code) (a:=IntKind.i64.wrap (a+by_)) mapT_pyr keyE_u64 rfl rfl rfl rfl rfl rfl rfl rfl ?_|refine OpP.mput (key:=code) (a:=IntKind.i64.wrap (0+by_)) mapT_pyr keyE_u64 rfl rfl rfl rfl rfl rfl rfl rfl ?_|refine fn_ok ev_ok rfl ?_));all_goals (try conv=>whnf);all_goals (rename_i h;first|exact ⟨rfl,[],by rw[←cnt_del (by rw[ha];rfl) h];rfl⟩|exact ⟨rfl,[],by rw[←cnt_put (by rw[ha];rfl) h];rfl⟩)
theorem pturn_5{Ms:Nat→List (Int×Int)}{code by_:Int}:CP [] 237 [.ptr 0 0,iA 5,uA code,iA by_] (pyrH Ms) (fun v H'=>v=undefV∧∃G,H'=pyrH (turnMs Ms 5 code by_)++G):=by
 refine fn_ok ev_ok rfl ?_
 (repeat' ((conv=>whnf);first|with_reducible apply brP_of<;>intro _|refine IdxP.of (k:=5) rfl (by omega) ?_|refine OpP.look1 _ mapT_pyr keyE_u64 rfl rfl rfl rfl (fun a ha=>?_) (fun ha=>?_)|refine OpP.mdel (key:=code) rfl rfl rfl mapT_pyr keyE_u64 rfl rfl ?_|refine OpP.mput (key:=code) (a:=IntKind.i64.wrap (a+by_)) mapT_pyr keyE_u64 rfl rfl rfl rfl rfl rfl rfl rfl ?_|refine OpP.mput (key:=code) (a:=IntKind.i64.wrap (0+by_)) mapT_pyr keyE_u64 rfl rfl rfl rfl rfl rfl rfl rfl ?_|refine fn_ok ev_ok rfl ?_));all_goals (try conv=>whnf);all_goals (rename_i h;first|exact ⟨rfl,[],by rw[←cnt_del (by rw[ha];rfl) h];rfl⟩|exact ⟨rfl,[],by rw[←cnt_put (by rw[ha];rfl) h];rfl⟩)
theorem pturn_6{Ms:Nat→List (Int×Int)}{code by_:Int}:CP [] 237 [.ptr 0 0,iA 6,uA code,iA by_] (pyrH Ms) (fun v H'=>v=undefV∧∃G,H'=pyrH (turnMs Ms 6 code by_)++G):=by
 refine fn_ok ev_ok rfl ?_
 (repeat' ((conv=>whnf);first|with_reducible apply brP_of<;>intro _|refine IdxP.of (k:=6) rfl (by omega) ?_|refine OpP.look1 _ mapT_pyr keyE_u64 rfl rfl rfl rfl (fun a ha=>?_) (fun ha=>?_)|refine OpP.mdel (key:=code) rfl rfl rfl mapT_pyr keyE_u64 rfl rfl ?_|refine OpP.mput (key:=code) (a:=IntKind.i64.wrap (a+by_)) mapT_pyr keyE_u64 rfl rfl rfl rfl rfl rfl rfl rfl ?_|refine OpP.mput (key:=code) (a:=IntKind.i64.wrap (0+by_)) mapT_pyr keyE_u64 rfl rfl rfl rfl rfl rfl rfl rfl ?_|refine fn_ok ev_ok rfl ?_));all_goals (try conv=>whnf);all_goals (rename_i h;first|exact ⟨rfl,[],by rw[←cnt_del (by rw[ha];rfl) h];rfl⟩|exact ⟨rfl,[],by rw[←cnt_put (by rw[ha];rfl) h];rfl⟩)
theorem pturn_7{Ms:Nat→List (Int×Int)}{code by_:Int}:CP [] 237 [.ptr 0 0,iA 7,uA code,iA by_] (pyrH Ms) (fun v H'=>v=undefV∧∃G,H'=pyrH (turnMs Ms 7 code by_)++G):=by
 refine fn_ok ev_ok rfl ?_
 (repeat' ((conv=>whnf);first|with_reducible apply brP_of<;>intro _|refine IdxP.of (k:=7) rfl (by omega) ?_|refine OpP.look1 _ mapT_pyr keyE_u64 rfl rfl rfl rfl (fun a ha=>?_) (fun ha=>?_)|refine OpP.mdel (key:=code) rfl rfl rfl mapT_pyr keyE_u64 rfl rfl ?_|refine OpP.mput (key:=code) (a:=IntKind.i64.wrap (a+by_)) mapT_pyr keyE_u64 rfl rfl rfl rfl rfl rfl rfl rfl ?_|refine OpP.mput (key:=code) (a:=IntKind.i64.wrap (0+by_)) mapT_pyr keyE_u64 rfl rfl rfl rfl rfl rfl rfl rfl ?_|refine fn_ok ev_ok rfl ?_));all_goals (try conv=>whnf);all_goals (rename_i h;first|exact ⟨rfl,[],by rw[←cnt_del (by rw[ha];rfl) h];rfl⟩|exact ⟨rfl,[],by rw[←cnt_put (by rw[ha];rfl) h];rfl⟩)
theorem pturn_8{Ms:Nat→List (Int×Int)}{code by_:Int}:CP [] 237 [.ptr 0 0,iA 8,uA code,iA by_] (pyrH Ms) (fun v H'=>v=undefV∧∃G,H'=pyrH (turnMs Ms 8 code by_)++G):=by
 refine fn_ok ev_ok rfl ?_
 (repeat' ((conv=>whnf);first|with_reducible apply brP_of<;>intro _|refine IdxP.of (k:=8) rfl (by omega) ?_|refine OpP.look1 _ mapT_pyr keyE_u64 rfl rfl rfl rfl (fun a ha=>?_) (fun ha=>?_)|refine OpP.mdel (key:=code) rfl rfl rfl mapT_pyr keyE_u64 rfl rfl ?_|refine OpP.mput (key:=code) (a:=IntKind.i64.wrap (a+by_)) mapT_pyr keyE_u64 rfl rfl rfl rfl rfl rfl rfl rfl ?_|refine OpP.mput (key:=code) (a:=IntKind.i64.wrap (0+by_)) mapT_pyr keyE_u64 rfl rfl rfl rfl rfl rfl rfl rfl ?_|refine fn_ok ev_ok rfl ?_));all_goals (try conv=>whnf);all_goals (rename_i h;first|exact ⟨rfl,[],by rw[←cnt_del (by rw[ha];rfl) h];rfl⟩|exact ⟨rfl,[],by rw[←cnt_put (by rw[ha];rfl) h];rfl⟩)
theorem pturn_9{Ms:Nat→List (Int×Int)}{code by_:Int}:CP [] 237 [.ptr 0 0,iA 9,uA code,iA by_] (pyrH Ms) (fun v H'=>v=undefV∧∃G,H'=pyrH (turnMs Ms 9 code by_)++G):=by
 refine fn_ok ev_ok rfl ?_
 (repeat' ((conv=>whnf);first|with_reducible apply brP_of<;>intro _|refine IdxP.of (k:=9) rfl (by omega) ?_|refine OpP.look1 _ mapT_pyr keyE_u64 rfl rfl rfl rfl (fun a ha=>?_) (fun ha=>?_)|refine OpP.mdel (key:=code) rfl rfl rfl mapT_pyr keyE_u64 rfl rfl ?_|refine OpP.mput (key:=code) (a:=IntKind.i64.wrap (a+by_)) mapT_pyr keyE_u64 rfl rfl rfl rfl rfl rfl rfl rfl ?_|refine OpP.mput (key:=code) (a:=IntKind.i64.wrap (0+by_)) mapT_pyr keyE_u64 rfl rfl rfl rfl rfl rfl rfl rfl ?_|refine fn_ok ev_ok rfl ?_));all_goals (try conv=>whnf);all_goals (rename_i h;first|exact ⟨rfl,[],by rw[←cnt_del (by rw[ha];rfl) h];rfl⟩|exact ⟨rfl,[],by rw[←cnt_put (by rw[ha];rfl) h];rfl⟩)
theorem pturn_10{Ms:Nat→List (Int×Int)}{code by_:Int}:CP [] 237 [.ptr 0 0,iA 10,uA code,iA by_] (pyrH Ms) (fun v H'=>v=undefV∧∃G,H'=pyrH (turnMs Ms 10 code by_)++G):=by
 refine fn_ok ev_ok rfl ?_
 (repeat' ((conv=>whnf);first|with_reducible apply brP_of<;>intro _|refine IdxP.of (k:=10) rfl (by omega) ?_|refine OpP.look1 _ mapT_pyr keyE_u64 rfl rfl rfl rfl (fun a ha=>?_) (fun ha=>?_)|refine OpP.mdel (key:=code) rfl rfl rfl mapT_pyr keyE_u64 rfl rfl ?_|refine OpP.mput (key:=code) (a:=IntKind.i64.wrap (a+by_)) mapT_pyr keyE_u64 rfl rfl rfl rfl rfl rfl rfl rfl ?_|refine OpP.mput (key:=code) (a:=IntKind.i64.wrap (0+by_)) mapT_pyr keyE_u64 rfl rfl rfl rfl rfl rfl rfl rfl ?_|refine fn_ok ev_ok rfl ?_));all_goals (try conv=>whnf);all_goals (rename_i h;first|exact ⟨rfl,[],by rw[←cnt_del (by rw[ha];rfl) h];rfl⟩|exact ⟨rfl,[],by rw[←cnt_put (by rw[ha];rfl) h];rfl⟩)
theorem pturn_11{Ms:Nat→List (Int×Int)}{code by_:Int}:CP [] 237 [.ptr 0 0,iA 11,uA code,iA by_] (pyrH Ms) (fun v H'=>v=undefV∧∃G,H'=pyrH (turnMs Ms 11 code by_)++G):=by
 refine fn_ok ev_ok rfl ?_
 (repeat' ((conv=>whnf);first|with_reducible apply brP_of<;>intro _|refine IdxP.of (k:=11) rfl (by omega) ?_|refine OpP.look1 _ mapT_pyr keyE_u64 rfl rfl rfl rfl (fun a ha=>?_) (fun ha=>?_)|refine OpP.mdel (key:=code) rfl rfl rfl mapT_pyr keyE_u64 rfl rfl ?_|refine OpP.mput (key:=code) (a:=IntKind.i64.wrap (a+by_)) mapT_pyr keyE_u64 rfl rfl rfl rfl rfl rfl rfl rfl ?_|refine OpP.mput (key:=code) (a:=IntKind.i64.wrap (0+by_)) mapT_pyr keyE_u64 rfl rfl rfl rfl rfl rfl rfl rfl ?_|refine fn_ok ev_ok rfl ?_));all_goals (try conv=>whnf);all_goals (rename_i h;first|exact ⟨rfl,[],by rw[←cnt_del (by rw[ha];rfl) h];rfl⟩|exact ⟨rfl,[],by rw[←cnt_put (by rw[ha];rfl) h];rfl⟩)
theorem pturn_12{Ms:Nat→List (Int×Int)}{code by_:Int}:CP [] 237 [.ptr 0 0,iA 12,uA code,iA by_] (pyrH Ms) (fun v H'=>v=undefV∧∃G,H'=pyrH (turnMs Ms 12 code by_)++G):=by
 refine fn_ok ev_ok rfl ?_
 (repeat' ((conv=>whnf);first|with_reducible apply brP_of<;>intro _|refine IdxP.of (k:=12) rfl (by omega) ?_|refine OpP.look1 _ mapT_pyr keyE_u64 rfl rfl rfl rfl (fun a ha=>?_) (fun ha=>?_)|refine OpP.mdel (key:=code) rfl rfl rfl mapT_pyr keyE_u64 rfl rfl ?_|refine OpP.mput (key:=code) (a:=IntKind.i64.wrap (a+by_)) mapT_pyr keyE_u64 rfl rfl rfl rfl rfl rfl rfl rfl ?_|refine OpP.mput (key:=code) (a:=IntKind.i64.wrap (0+by_)) mapT_pyr keyE_u64 rfl rfl rfl rfl rfl rfl rfl rfl ?_|refine fn_ok ev_ok rfl ?_));all_goals (try conv=>whnf);all_goals (rename_i h;first|exact ⟨rfl,[],by rw[←cnt_del (by rw[ha];rfl) h];rfl⟩|exact ⟨rfl,[],by rw[←cnt_put (by rw[ha];rfl) h];rfl⟩)
theorem pturn_13{Ms:Nat→List (Int×Int)}{code by_:Int}:CP [] 237 [.ptr 0 0,iA 13,uA code,iA by_] (pyrH Ms) (fun v H'=>v=undefV∧∃G,H'=pyrH (turnMs Ms 13 code by_)++G):=by
 refine fn_ok ev_ok rfl ?_
 (repeat' ((conv=>whnf);first|with_reducible apply brP_of<;>intro _|refine IdxP.of (k:=13) rfl (by omega) ?_|refine OpP.look1 _ mapT_pyr keyE_u64 rfl rfl rfl rfl (fun a ha=>?_) (fun ha=>?_)|refine OpP.mdel (key:=code) rfl rfl rfl mapT_pyr keyE_u64 rfl rfl ?_|refine OpP.mput (key:=code) (a:=IntKind.i64.wrap (a+by_)) mapT_pyr keyE_u64 rfl rfl rfl rfl rfl rfl rfl rfl ?_|refine OpP.mput (key:=code) (a:=IntKind.i64.wrap (0+by_)) mapT_pyr keyE_u64 rfl rfl rfl rfl rfl rfl rfl rfl ?_|refine fn_ok ev_ok rfl ?_));all_goals (try conv=>whnf);all_goals (rename_i h;first|exact ⟨rfl,[],by rw[←cnt_del (by rw[ha];rfl) h];rfl⟩|exact ⟨rfl,[],by rw[←cnt_put (by rw[ha];rfl) h];rfl⟩)
theorem pturn_14{Ms:Nat→List (Int×Int)}{code by_:Int}:CP [] 237 [.ptr 0 0,iA 14,uA code,iA by_] (pyrH Ms) (fun v H'=>v=undefV∧∃G,H'=pyrH (turnMs Ms 14 code by_)++G):=by
 refine fn_ok ev_ok rfl ?_
 (repeat' ((conv=>whnf);first|with_reducible apply brP_of<;>intro _|refine IdxP.of (k:=14) rfl (by omega) ?_|refine OpP.look1 _ mapT_pyr keyE_u64 rfl rfl rfl rfl (fun a ha=>?_) (fun ha=>?_)|refine OpP.mdel (key:=code) rfl rfl rfl mapT_pyr keyE_u64 rfl rfl ?_|refine OpP.mput (key:=code) (a:=IntKind.i64.wrap (a+by_)) mapT_pyr keyE_u64 rfl rfl rfl rfl rfl rfl rfl rfl ?_|refine OpP.mput (key:=code) (a:=IntKind.i64.wrap (0+by_)) mapT_pyr keyE_u64 rfl rfl rfl rfl rfl rfl rfl rfl ?_|refine fn_ok ev_ok rfl ?_));all_goals (try conv=>whnf);all_goals (rename_i h;first|exact ⟨rfl,[],by rw[←cnt_del (by rw[ha];rfl) h];rfl⟩|exact ⟨rfl,[],by rw[←cnt_put (by rw[ha];rfl) h];rfl⟩)
theorem pturn_15{Ms:Nat→List (Int×Int)}{code by_:Int}:CP [] 237 [.ptr 0 0,iA 15,uA code,iA by_] (pyrH Ms) (fun v H'=>v=undefV∧∃G,H'=pyrH (turnMs Ms 15 code by_)++G):=by
 refine fn_ok ev_ok rfl ?_
 (repeat' ((conv=>whnf);first|with_reducible apply brP_of<;>intro _|refine IdxP.of (k:=15) rfl (by omega) ?_|refine OpP.look1 _ mapT_pyr keyE_u64 rfl rfl rfl rfl (fun a ha=>?_) (fun ha=>?_)|refine OpP.mdel (key:=code) rfl rfl rfl mapT_pyr keyE_u64 rfl rfl ?_|refine OpP.mput (key:=code) (a:=IntKind.i64.wrap (a+by_)) mapT_pyr keyE_u64 rfl rfl rfl rfl rfl rfl rfl rfl ?_|refine OpP.mput (key:=code) (a:=IntKind.i64.wrap (0+by_)) mapT_pyr keyE_u64 rfl rfl rfl rfl rfl rfl rfl rfl ?_|refine fn_ok ev_ok rfl ?_));all_goals (try conv=>whnf);all_goals (rename_i h;first|exact ⟨rfl,[],by rw[←cnt_del (by rw[ha];rfl) h];rfl⟩|exact ⟨rfl,[],by rw[←cnt_put (by rw[ha];rfl) h];rfl⟩)
theorem pturn_16{Ms:Nat→List (Int×Int)}{code by_:Int}:CP [] 237 [.ptr 0 0,iA 16,uA code,iA by_] (pyrH Ms) (fun v H'=>v=undefV∧∃G,H'=pyrH (turnMs Ms 16 code by_)++G):=by
 refine fn_ok ev_ok rfl ?_
 (repeat' ((conv=>whnf);first|with_reducible apply brP_of<;>intro _|refine IdxP.of (k:=16) rfl (by omega) ?_|refine OpP.look1 _ mapT_pyr keyE_u64 rfl rfl rfl rfl (fun a ha=>?_) (fun ha=>?_)|refine OpP.mdel (key:=code) rfl rfl rfl mapT_pyr keyE_u64 rfl rfl ?_|refine OpP.mput (key:=code) (a:=IntKind.i64.wrap (a+by_)) mapT_pyr keyE_u64 rfl rfl rfl rfl rfl rfl rfl rfl ?_|refine OpP.mput (key:=code) (a:=IntKind.i64.wrap (0+by_)) mapT_pyr keyE_u64 rfl rfl rfl rfl rfl rfl rfl rfl ?_|refine fn_ok ev_ok rfl ?_));all_goals (try conv=>whnf);all_goals (rename_i h;first|exact ⟨rfl,[],by rw[←cnt_del (by rw[ha];rfl) h];rfl⟩|exact ⟨rfl,[],by rw[←cnt_put (by rw[ha];rfl) h];rfl⟩)
theorem pturn{Ms:Nat→List (Int×Int)}{l:Nat}{code by_:Int}(h:l<17):CP [] 237 [.ptr 0 0,iA (l:Int),uA code,iA by_] (pyrH Ms) (fun v H'=>v=undefV∧∃G,H'=pyrH (turnMs Ms l code by_)++G):=by
 match l,h with
 | 0,_=>exact pturn_0
 | 1,_=>exact pturn_1
 | 2,_=>exact pturn_2
 | 3,_=>exact pturn_3
 | 4,_=>exact pturn_4
 | 5,_=>exact pturn_5
 | 6,_=>exact pturn_6
 | 7,_=>exact pturn_7
 | 8,_=>exact pturn_8
 | 9,_=>exact pturn_9
 | 10,_=>exact pturn_10
 | 11,_=>exact pturn_11
 | 12,_=>exact pturn_12
 | 13,_=>exact pturn_13
 | 14,_=>exact pturn_14
 | 15,_=>exact pturn_15
 | 16,_=>exact pturn_16
 | n+17,h=>omega
def shr2(code:Int):Int:=code.fdiv (2 ^ min (Int.toNat 2) IntKind.u64.bits)
def predI:Nat→Int
 | 0=>-1
 | k+1=>(k:Int)
theorem predI_eq(k:Nat):predI k=(k:Int) - 1:=by cases k<;>simp[predI]
def cel16(x y:Int):Cel:=if decide (0≤(16:Int)∧(16:Int)≤16)&&fits x y then ofC x y 16 else ⟨0,0,0⟩
def code16(x y:Int):Int:=if (cel16 x y).right then codeR (cel16 x y).x (cel16 x y).y (cel16 x y).l.toNat 0 else 0
theorem padd{Ms:Nat→List (Int×Int)}{x y:Int}:CP [] 141 [.ptr 0 0,.agg [iA x,iA y]] (pyrH Ms) (fun v H'=>v=bA (fits x y)∧∃Ms' G,H'=pyrH Ms'++G):=by
 refine fn_ok ev_ok rfl ?_
 repeat' ((conv=>whnf);first|with_reducible refine brP_of (fun _=>?_) (fun _=>?_)|refine cOf ?_|refine ccode ?_|refine IdxP.of (k:=0) rfl (by omega) ?_|refine fn_ok ev_ok rfl ?_)
 all_goals (try conv=>whnf)
 case refine_2=>
  rename_i h
  exact ⟨bA_eq (by rw[←h];rfl),Ms,_,rfl⟩
 all_goals
  rename_i h h'
  have hf:fits x y=true:=by rw[←h];rfl
  refine loopP ev_ok rfl (fun s:Nat×Int×(Nat→List (Int×Int))=>[(1,.func (.func 236) [] [.ptr 18 0]),(7,uA s.2.1),(9,iA (predI s.1))]) (fun s=>pyrH s.2.2++[.cells [.ptr 0 0] 124,.cells [iA x,iA y] 70])
   (fun s=>s.1≤17) (fun s=>s.1) (17,code16 x y,Ms) (by show 17≤17;omega) [0,1,2,3,4,5,6,7,8,9,10,11,12,13,14,15,16,17,18,19] ?_ ?_
  ·exact ⟨rfl,⟨⟨rfl,rfl⟩,⟨rfl,rfl⟩,⟨rfl,rfl⟩,tU⟩,⟨⟨_,rfl,rfl⟩,⟨_,rfl,rfl⟩,⟨_,rfl,rfl⟩,⟨_,rfl,rfl⟩,⟨_,rfl,rfl⟩,⟨_,rfl,rfl⟩,⟨_,rfl,rfl⟩,⟨_,rfl,rfl⟩,⟨_,rfl,rfl⟩,⟨_,rfl,rfl⟩,⟨_,rfl,rfl⟩,⟨_,rfl,rfl⟩,⟨_,rfl,rfl⟩,⟨_,rfl,rfl⟩,⟨_,rfl,rfl⟩,⟨_,rfl,rfl⟩,⟨_,rfl,rfl⟩,⟨_,rfl,rfl⟩,⟨_,rfl,rfl⟩,⟨_,rfl,rfl⟩,tU⟩⟩
  ·rintro ⟨k,code,Ms⟩ hk
   have hk:k≤17:=hk
   rcases k with _|k
   ·conv=>whnf
    exact ⟨bA_eq hf.symm,Ms,_,rfl⟩
   ·repeat' ((conv=>whnf);first|with_reducible refine brP_of (fun _=>?_) (fun _=>?_)|refine OpP.shr rfl rfl (by omega) ?_|(refine (pturn (Ms:=Ms) (l:=k) (code:=code) (by omega)).use [0,1,2,3,4,5,6,7,8,9,10,11,12,13,14,15,16,17] rfl rfl ⟨⟨_,rfl,rfl⟩,⟨_,rfl,rfl⟩,⟨_,rfl,rfl⟩,⟨_,rfl,rfl⟩,⟨_,rfl,rfl⟩,⟨_,rfl,rfl⟩,⟨_,rfl,rfl⟩,⟨_,rfl,rfl⟩,⟨_,rfl,rfl⟩,⟨_,rfl,rfl⟩,⟨_,rfl,rfl⟩,⟨_,rfl,rfl⟩,⟨_,rfl,rfl⟩,⟨_,rfl,rfl⟩,⟨_,rfl,rfl⟩,⟨_,rfl,rfl⟩,⟨_,rfl,rfl⟩,⟨_,rfl,rfl⟩,tU⟩ ?_;rintro _ _ ⟨rfl,G,rfl⟩;refine ⟨[],?_⟩)|refine fn_ok ev_ok rfl ?_)
    all_goals (try conv=>whnf)
    exact ⟨(k,shr2 code,turnMs Ms k code 1),[0,1,2,3,4,5,6,7,8,9,10,11,12,13,14,15,16,17,18,19],⟨by show k≤17;omega,by show k<k+1;omega⟩,rfl,⟨⟨rfl,rfl⟩,⟨rfl,rfl⟩,⟨rfl,subInt rfl (wrap_eq (by show (k:Int) - 1=predI k∧_;rw[predI_eq];omega))⟩,tU⟩,⟨⟨_,rfl,rfl⟩,⟨_,rfl,rfl⟩,⟨_,rfl,rfl⟩,⟨_,rfl,rfl⟩,⟨_,rfl,rfl⟩,⟨_,rfl,rfl⟩,⟨_,rfl,rfl⟩,⟨_,rfl,rfl⟩,⟨_,rfl,rfl⟩,⟨_,rfl,rfl⟩,⟨_,rfl,rfl⟩,⟨_,rfl,rfl⟩,⟨_,rfl,rfl⟩,⟨_,rfl,rfl⟩,⟨_,rfl,rfl⟩,⟨_,rfl,rfl⟩,⟨_,rfl,rfl⟩,⟨_,rfl,rfl⟩,⟨_,rfl,rfl⟩,⟨_,rfl,rfl⟩,tU⟩⟩
def pyrR(a:Addr)(Ms:Nat→List (Int×Int)):Res:=AtR a 0 (pyrH Ms)
theorem paddR{a:Addr}{Ms:Nat→List (Int×Int)}{x y:Int}:CP [] 141 [.lit (.pointer (some a)),.agg [iA x,iA y]] [.res (pyrR a Ms)] (fun v H'=>v=bA (fits x y)∧∃Ms',H'=[.res (pyrR a Ms')]):=
 CallS.inR padd (fun _=>rfl) fun v H' h=>by
  obtain ⟨rfl,Ms',G,rfl⟩:=h
  exact ⟨[0,1,2,3,4,5,6,7,8,9,10,11,12,13,14,15,16,17],pyrH Ms',⟨rfl,rfl,⟨⟨_,rfl,rfl⟩,⟨_,rfl,rfl⟩,⟨_,rfl,rfl⟩,⟨_,rfl,rfl⟩,⟨_,rfl,rfl⟩,⟨_,rfl,rfl⟩,⟨_,rfl,rfl⟩,⟨_,rfl,rfl⟩,⟨_,rfl,rfl⟩,⟨_,rfl,rfl⟩,⟨_,rfl,rfl⟩,⟨_,rfl,rfl⟩,⟨_,rfl,rfl⟩,⟨_,rfl,rfl⟩,⟨_,rfl,rfl⟩,⟨_,rfl,rfl⟩,⟨_,rfl,rfl⟩,⟨_,rfl,rfl⟩,tU⟩,Ent.cons _ (Ent.cons _ (Ent.cons _ (Ent.cons _ (Ent.cons _ (Ent.cons _ (Ent.cons _ (Ent.cons _ (Ent.cons _ (Ent.cons _ (Ent.cons _ (Ent.cons _ (Ent.cons _ (Ent.cons _ (Ent.cons _ (Ent.cons _ (Ent.cons _ (Ent.cons _ (Ent.all _)))))))))))))))))),fun _=>rfl⟩,rfl,Ms',rfl⟩
theorem pnew0:CP [] 134 [] [] (fun v H'=>v=.ptr 0 0∧H'=[.cells [.map 1,.map 2,.map 3,.map 4,.map 5,.map 6,.map 7,.map 8,.map 9,.map 10,.map 11,.map 12,.map 13,.map 14,.map 15,.map 16,.map 17] 337,.map [] 0,.map [] 0,.map [] 0,.map [] 0,.map [] 0,.map [] 0,.map [] 0,.map [] 0,.map [] 0,.map [] 0,.map [] 0,.map [] 0,.map [] 0,.map [] 0,.map [] 0,.map [] 0,.map [] 0]):=by
 refine fn_ok ev_ok rfl ?_
 conv=>whnf
 refine RdS.loop 18 ?_
 refine RdS.step ev_ok rfl ?_
 (repeat' ((conv=>whnf);first|refine IdxP.of (k:=0) rfl (by omega) ?_))
 conv=>whnf
 refine RdS.sub [0,1] (l:=[(1,.ptr 0 0),(5,iA 1)]) (H0:=[.cells [.map 1,.lit (.map none),.lit (.map none),.lit (.map none),.lit (.map none),.lit (.map none),.lit (.map none),.lit (.map none),.lit (.map none),.lit (.map none),.lit (.map none),.lit (.map none),.lit (.map none),.lit (.map none),.lit (.map none),.lit (.map none),.lit (.map none)] 337,.map [] 0]) ⟨rfl,⟨⟨rfl,rfl⟩,⟨rfl,subInt rfl (by decide)⟩,tU⟩,⟨⟨_,rfl,rfl⟩,⟨_,rfl,rfl⟩,tU⟩⟩ ?_
 refine RdS.step ev_ok rfl ?_
 (repeat' ((conv=>whnf);first|refine IdxP.of (k:=1) rfl (by omega) ?_))
 conv=>whnf
 refine RdS.sub [0,1,2] (l:=[(1,.ptr 0 0),(5,iA 2)]) (H0:=[.cells [.map 1,.map 2,.lit (.map none),.lit (.map none),.lit (.map none),.lit (.map none),.lit (.map none),.lit (.map none),.lit (.map none),.lit (.map none),.lit (.map none),.lit (.map none),.lit (.map none),.lit (.map none),.lit (.map none),.lit (.map none),.lit (.map none)] 337,.map [] 0,.map [] 0]) ⟨rfl,⟨⟨rfl,rfl⟩,⟨rfl,subInt rfl (by decide)⟩,tU⟩,⟨⟨_,rfl,rfl⟩,⟨_,rfl,rfl⟩,⟨_,rfl,rfl⟩,tU⟩⟩ ?_
 refine RdS.step ev_ok rfl ?_
 (repeat' ((conv=>whnf);first|refine IdxP.of (k:=2) rfl (by omega) ?_))
 conv=>whnf
 refine RdS.sub [0,1,2,3] (l:=[(1,.ptr 0 0),(5,iA 3)]) (H0:=[.cells [.map 1,.map 2,.map 3,.lit (.map none),.lit (.map none),.lit (.map none),.lit (.map none),.lit (.map none),.lit (.map none),.lit (.map none),.lit (.map none),.lit (.map none),.lit (.map none),.lit (.map none),.lit (.map none),.lit (.map none),.lit (.map none)] 337,.map [] 0,.map [] 0,.map [] 0]) ⟨rfl,⟨⟨rfl,rfl⟩,⟨rfl,subInt rfl (by decide)⟩,tU⟩,⟨⟨_,rfl,rfl⟩,⟨_,rfl,rfl⟩,⟨_,rfl,rfl⟩,⟨_,rfl,rfl⟩,tU⟩⟩ ?_
 refine RdS.step ev_ok rfl ?_
 (repeat' ((conv=>whnf);first|refine IdxP.of (k:=3) rfl (by omega) ?_))
 conv=>whnf
 refine RdS.sub [0,1,2,3,4] (l:=[(1,.ptr 0 0),(5,iA 4)]) (H0:=[.cells [.map 1,.map 2,.map 3,.map 4,.lit (.map none),.lit (.map none),.lit (.map none),.lit (.map none),.lit (.map none),.lit (.map none),.lit (.map none),.lit (.map none),.lit (.map none),.lit (.map none),.lit (.map none),.lit (.map none),.lit (.map none)] 337,.map [] 0,.map [] 0,.map [] 0,.map [] 0]) ⟨rfl,⟨⟨rfl,rfl⟩,⟨rfl,subInt rfl (by decide)⟩,tU⟩,⟨⟨_,rfl,rfl⟩,⟨_,rfl,rfl⟩,⟨_,rfl,rfl⟩,⟨_,rfl,rfl⟩,⟨_,rfl,rfl⟩,tU⟩⟩ ?_
 refine RdS.step ev_ok rfl ?_
 (repeat' ((conv=>whnf);first|refine IdxP.of (k:=4) rfl (by omega) ?_))
 conv=>whnf
 refine RdS.sub [0,1,2,3,4,5] (l:=[(1,.ptr 0 0),(5,iA 5)]) (H0:=[.cells [.map 1,.map 2,.map 3,.map 4,.map 5,.lit (.map none),.lit (.map none),.lit (.map none),.lit (.map none),.lit (.map none),.lit (.map none),.lit (.map none),.lit (.map none),.lit (.map none),.lit (.map none),.lit (.map none),.lit (.map none)] 337,.map [] 0,.map [] 0,.map [] 0,.map [] 0,.map [] 0]) ⟨rfl,⟨⟨rfl,rfl⟩,⟨rfl,subInt rfl (by decide)⟩,tU⟩,⟨⟨_,rfl,rfl⟩,⟨_,rfl,rfl⟩,⟨_,rfl,rfl⟩,⟨_,rfl,rfl⟩,⟨_,rfl,rfl⟩,⟨_,rfl,rfl⟩,tU⟩⟩ ?_
 refine RdS.step ev_ok rfl ?_
 (repeat' ((conv=>whnf);first|refine IdxP.of (k:=5) rfl (by omega) ?_))
 conv=>whnf
 refine RdS.sub [0,1,2,3,4,5,6] (l:=[(1,.ptr 0 0),(5,iA 6)]) (H0:=[.cells [.map 1,.map 2,.map 3,.map 4,.map 5,.map 6,.lit (.map none),.lit (.map none),.lit (.map none),.lit (.map none),.lit (.map none),.lit (.map none),.lit (.map none),.lit (.map none),.lit (.map none),.lit (.map none),.lit (.map none)] 337,.map [] 0,.map [] 0,.map [] 0,.map [] 0,.map [] 0,.map [] 0]) ⟨rfl,⟨⟨rfl,rfl⟩,⟨rfl,subInt rfl (by decide)⟩,tU⟩,⟨⟨_,rfl,rfl⟩,⟨_,rfl,rfl⟩,⟨_,rfl,rfl⟩,⟨_,rfl,rfl⟩,⟨_,rfl,rfl⟩,⟨_,rfl,rfl⟩,⟨_,rfl,rfl⟩,tU⟩⟩ ?_
 refine RdS.step ev_ok rfl ?_
 (repeat' ((conv=>whnf);first|refine IdxP.of (k:=6) rfl (by omega) ?_))
 conv=>whnf
 refine RdS.sub [0,1,2,3,4,5,6,7] (l:=[(1,.ptr 0 0),(5,iA 7)]) (H0:=[.cells [.map 1,.map 2,.map 3,.map 4,.map 5,.map 6,.map 7,.lit (.map none),.lit (.map none),.lit (.map none),.lit (.map none),.lit (.map none),.lit (.map none),.lit (.map none),.lit (.map none),.lit (.map none),.lit (.map none)] 337,.map [] 0,.map [] 0,.map [] 0,.map [] 0,.map [] 0,.map [] 0,.map [] 0]) ⟨rfl,⟨⟨rfl,rfl⟩,⟨rfl,subInt rfl (by decide)⟩,tU⟩,⟨⟨_,rfl,rfl⟩,⟨_,rfl,rfl⟩,⟨_,rfl,rfl⟩,⟨_,rfl,rfl⟩,⟨_,rfl,rfl⟩,⟨_,rfl,rfl⟩,⟨_,rfl,rfl⟩,⟨_,rfl,rfl⟩,tU⟩⟩ ?_
 refine RdS.step ev_ok rfl ?_
 (repeat' ((conv=>whnf);first|refine IdxP.of (k:=7) rfl (by omega) ?_))
 conv=>whnf
 refine RdS.sub [0,1,2,3,4,5,6,7,8] (l:=[(1,.ptr 0 0),(5,iA 8)]) (H0:=[.cells [.map 1,.map 2,.map 3,.map 4,.map 5,.map 6,.map 7,.map 8,.lit (.map none),.lit (.map none),.lit (.map none),.lit (.map none),.lit (.map none),.lit (.map none),.lit (.map none),.lit (.map none),.lit (.map none)] 337,.map [] 0,.map [] 0,.map [] 0,.map [] 0,.map [] 0,.map [] 0,.map [] 0,.map [] 0]) ⟨rfl,⟨⟨rfl,rfl⟩,⟨rfl,subInt rfl (by decide)⟩,tU⟩,⟨⟨_,rfl,rfl⟩,⟨_,rfl,rfl⟩,⟨_,rfl,rfl⟩,⟨_,rfl,rfl⟩,⟨_,rfl,rfl⟩,⟨_,rfl,rfl⟩,⟨_,rfl,rfl⟩,⟨_,rfl,rfl⟩,⟨_,rfl,rfl⟩,tU⟩⟩ ?_
 refine RdS.step ev_ok rfl ?_
 (repeat' ((conv=>whnf);first|refine IdxP.of (k:=8) rfl (by omega) ?_))
 conv=>whnf
 refine RdS.sub [0,1,2,3,4,5,6,7,8,9] (l:=[(1,.ptr 0 0),(5,iA 9)]) (H0:=[.cells [.map 1,.map 2,.map 3,.map 4,.map 5,.map 6,.map 7,.map 8,.map 9,.lit (.map none),.lit (.map none),.lit (.map none),.lit (.map none),.lit (.map none),.lit (.map none),.lit (.map none),.lit (.map none)] 337,.map [] 0,.map [] 0,.map [] 0,.map [] 0,.map [] 0,.map [] 0,.map [] 0,.map [] 0,.map [] 0]) ⟨rfl,⟨⟨rfl,rfl⟩,⟨rfl,subInt rfl (by decide)⟩,tU⟩,⟨⟨_,rfl,rfl⟩,⟨_,rfl,rfl⟩,⟨_,rfl,rfl⟩,⟨_,rfl,rfl⟩,⟨_,rfl,rfl⟩,⟨_,rfl,rfl⟩,⟨_,rfl,rfl⟩,⟨_,rfl,rfl⟩,⟨_,rfl,rfl⟩,⟨_,rfl,rfl⟩,tU⟩⟩ ?_
 refine RdS.step ev_ok rfl ?_
 (repeat' ((conv=>whnf);first|refine IdxP.of (k:=9) rfl (by omega) ?_))
 conv=>whnf
 refine RdS.sub [0,1,2,3,4,5,6,7,8,9,10] (l:=[(1,.ptr 0 0),(5,iA 10)]) (H0:=[.cells [.map 1,.map 2,.map 3,.map 4,.map 5,.map 6,.map 7,.map 8,.map 9,.map 10,.lit (.map none),.lit (.map none),.lit (.map none),.lit (.map none),.lit (.map none),.lit (.map none),.lit (.map none)] 337,.map [] 0,.map [] 0,.map [] 0,.map [] 0,.map [] 0,.map [] 0,.map [] 0,.map [] 0,.map [] 0,.map [] 0]) ⟨rfl,⟨⟨rfl,rfl⟩,⟨rfl,subInt rfl (by decide)⟩,tU⟩,⟨⟨_,rfl,rfl⟩,⟨_,rfl,rfl⟩,⟨_,rfl,rfl⟩,⟨_,rfl,rfl⟩,⟨_,rfl,rfl⟩,⟨_,rfl,rfl⟩,⟨_,rfl,rfl⟩,⟨_,rfl,rfl⟩,⟨_,rfl,rfl⟩,⟨_,rfl,rfl⟩,⟨_,rfl,rfl⟩,tU⟩⟩ ?_
 refine RdS.step ev_ok rfl ?_
 (repeat' ((conv=>whnf);first|refine IdxP.of (k:=10) rfl (by omega) ?_))
 conv=>whnf
 refine RdS.sub [0,1,2,3,4,5,6,7,8,9,10,11] (l:=[(1,.ptr 0 0),(5,iA 11)]) (H0:=[.cells [.map 1,.map 2,.map 3,.map 4,.map 5,.map 6,.map 7,.map 8,.map 9,.map 10,.map 11,.lit (.map none),.lit (.map none),.lit (.map none),.lit (.map none),.lit (.map none),.lit (.map none)] 337,.map [] 0,.map [] 0,.map [] 0,.map [] 0,.map [] 0,.map [] 0,.map [] 0,.map [] 0,.map [] 0,.map [] 0,.map [] 0]) ⟨rfl,⟨⟨rfl,rfl⟩,⟨rfl,subInt rfl (by decide)⟩,tU⟩,⟨⟨_,rfl,rfl⟩,⟨_,rfl,rfl⟩,⟨_,rfl,rfl⟩,⟨_,rfl,rfl⟩,⟨_,rfl,rfl⟩,⟨_,rfl,rfl⟩,⟨_,rfl,rfl⟩,⟨_,rfl,rfl⟩,⟨_,rfl,rfl⟩,⟨_,rfl,rfl⟩,⟨_,rfl,rfl⟩,⟨_,rfl,rfl⟩,tU⟩⟩ ?_
 refine RdS.step ev_ok rfl ?_
 (repeat' ((conv=>whnf);first|refine IdxP.of (k:=11) rfl (by omega) ?_))
 conv=>whnf
 refine RdS.sub [0,1,2,3,4,5,6,7,8,9,10,11,12] (l:=[(1,.ptr 0 0),(5,iA 12)]) (H0:=[.cells [.map 1,.map 2,.map 3,.map 4,.map 5,.map 6,.map 7,.map 8,.map 9,.map 10,.map 11,.map 12,.lit (.map none),.lit (.map none),.lit (.map none),.lit (.map none),.lit (.map none)] 337,.map [] 0,.map [] 0,.map [] 0,.map [] 0,.map [] 0,.map [] 0,.map [] 0,.map [] 0,.map [] 0,.map [] 0,.map [] 0,.map [] 0]) ⟨rfl,⟨⟨rfl,rfl⟩,⟨rfl,subInt rfl (by decide)⟩,tU⟩,⟨⟨_,rfl,rfl⟩,⟨_,rfl,rfl⟩,⟨_,rfl,rfl⟩,⟨_,rfl,rfl⟩,⟨_,rfl,rfl⟩,⟨_,rfl,rfl⟩,⟨_,rfl,rfl⟩,⟨_,rfl,rfl⟩,⟨_,rfl,rfl⟩,⟨_,rfl,rfl⟩,⟨_,rfl,rfl⟩,⟨_,rfl,rfl⟩,⟨_,rfl,rfl⟩,tU⟩⟩ ?_
 refine RdS.step ev_ok rfl ?_
 (repeat' ((conv=>whnf);first|refine IdxP.of (k:=12) rfl (by omega) ?_))
 conv=>whnf
 refine RdS.sub [0,1,2,3,4,5,6,7,8,9,10,11,12,13] (l:=[(1,.ptr 0 0),(5,iA 13)]) (H0:=[.cells [.map 1,.map 2,.map 3,.map 4,.map 5,.map 6,.map 7,.map 8,.map 9,.map 10,.map 11,.map 12,.map 13,.lit (.map none),.lit (.map none),.lit (.map none),.lit (.map none)] 337,.map [] 0,.map [] 0,.map [] 0,.map [] 0,.map [] 0,.map [] 0,.map [] 0,.map [] 0,.map [] 0,.map [] 0,.map [] 0,.map [] 0,.map [] 0]) ⟨rfl,⟨⟨rfl,rfl⟩,⟨rfl,subInt rfl (by decide)⟩,tU⟩,⟨⟨_,rfl,rfl⟩,⟨_,rfl,rfl⟩,⟨_,rfl,rfl⟩,⟨_,rfl,rfl⟩,⟨_,rfl,rfl⟩,⟨_,rfl,rfl⟩,⟨_,rfl,rfl⟩,⟨_,rfl,rfl⟩,⟨_,rfl,rfl⟩,⟨_,rfl,rfl⟩,⟨_,rfl,rfl⟩,⟨_,rfl,rfl⟩,⟨_,rfl,rfl⟩,⟨_,rfl,rfl⟩,tU⟩⟩ ?_
 refine RdS.step ev_ok rfl ?_
 (repeat' ((conv=>whnf);first|refine IdxP.of (k:=13) rfl (by omega) ?_))
 conv=>whnf
 refine RdS.sub [0,1,2,3,4,5,6,7,8,9,10,11,12,13,14] (l:=[(1,.ptr 0 0),(5,iA 14)]) (H0:=[.cells [.map 1,.map 2,.map 3,.map 4,.map 5,.map 6,.map 7,.map 8,.map 9,.map 10,.map 11,.map 12,.map 13,.map 14,.lit (.map none),.lit (.map none),.lit (.map none)] 337,.map [] 0,.map [] 0,.map [] 0,.map [] 0,.map [] 0,.map [] 0,.map [] 0,.map [] 0,.map [] 0,.map [] 0,.map [] 0,.map [] 0,.map [] 0,.map [] 0]) ⟨rfl,⟨⟨rfl,rfl⟩,⟨rfl,subInt rfl (by decide)⟩,tU⟩,⟨⟨_,rfl,rfl⟩,⟨_,rfl,rfl⟩,⟨_,rfl,rfl⟩,⟨_,rfl,rfl⟩,⟨_,rfl,rfl⟩,⟨_,rfl,rfl⟩,⟨_,rfl,rfl⟩,⟨_,rfl,rfl⟩,⟨_,rfl,rfl⟩,⟨_,rfl,rfl⟩,⟨_,rfl,rfl⟩,⟨_,rfl,rfl⟩,⟨_,rfl,rfl⟩,⟨_,rfl,rfl⟩,⟨_,rfl,rfl⟩,tU⟩⟩ ?_
 refine RdS.step ev_ok rfl ?_
 (repeat' ((conv=>whnf);first|refine IdxP.of (k:=14) rfl (by omega) ?_))
 conv=>whnf
 refine RdS.sub [0,1,2,3,4,5,6,7,8,9,10,11,12,13,14,15] (l:=[(1,.ptr 0 0),(5,iA 15)]) (H0:=[.cells [.map 1,.map 2,.map 3,.map 4,.map 5,.map 6,.map 7,.map 8,.map 9,.map 10,.map 11,.map 12,.map 13,.map 14,.map 15,.lit (.map none),.lit (.map none)] 337,.map [] 0,.map [] 0,.map [] 0,.map [] 0,.map [] 0,.map [] 0,.map [] 0,.map [] 0,.map [] 0,.map [] 0,.map [] 0,.map [] 0,.map [] 0,.map [] 0,.map [] 0]) ⟨rfl,⟨⟨rfl,rfl⟩,⟨rfl,subInt rfl (by decide)⟩,tU⟩,⟨⟨_,rfl,rfl⟩,⟨_,rfl,rfl⟩,⟨_,rfl,rfl⟩,⟨_,rfl,rfl⟩,⟨_,rfl,rfl⟩,⟨_,rfl,rfl⟩,⟨_,rfl,rfl⟩,⟨_,rfl,rfl⟩,⟨_,rfl,rfl⟩,⟨_,rfl,rfl⟩,⟨_,rfl,rfl⟩,⟨_,rfl,rfl⟩,⟨_,rfl,rfl⟩,⟨_,rfl,rfl⟩,⟨_,rfl,rfl⟩,⟨_,rfl,rfl⟩,tU⟩⟩ ?_
 refine RdS.step ev_ok rfl ?_
 (repeat' ((conv=>whnf);first|refine IdxP.of (k:=15) rfl (by omega) ?_))
 conv=>whnf
 refine RdS.sub [0,1,2,3,4,5,6,7,8,9,10,11,12,13,14,15,16] (l:=[(1,.ptr 0 0),(5,iA 16)]) (H0:=[.cells [.map 1,.map 2,.map 3,.map 4,.map 5,.map 6,.map 7,.map 8,.map 9,.map 10,.map 11,.map 12,.map 13,.map 14,.map 15,.map 16,.lit (.map none)] 337,.map [] 0,.map [] 0,.map [] 0,.map [] 0,.map [] 0,.map [] 0,.map [] 0,.map [] 0,.map [] 0,.map [] 0,.map [] 0,.map [] 0,.map [] 0,.map [] 0,.map [] 0,.map [] 0]) ⟨rfl,⟨⟨rfl,rfl⟩,⟨rfl,subInt rfl (by decide)⟩,tU⟩,⟨⟨_,rfl,rfl⟩,⟨_,rfl,rfl⟩,⟨_,rfl,rfl⟩,⟨_,rfl,rfl⟩,⟨_,rfl,rfl⟩,⟨_,rfl,rfl⟩,⟨_,rfl,rfl⟩,⟨_,rfl,rfl⟩,⟨_,rfl,rfl⟩,⟨_,rfl,rfl⟩,⟨_,rfl,rfl⟩,⟨_,rfl,rfl⟩,⟨_,rfl,rfl⟩,⟨_,rfl,rfl⟩,⟨_,rfl,rfl⟩,⟨_,rfl,rfl⟩,⟨_,rfl,rfl⟩,tU⟩⟩ ?_
 refine RdS.step ev_ok rfl ?_
 (repeat' ((conv=>whnf);first|refine IdxP.of (k:=16) rfl (by omega) ?_))
 conv=>whnf
 refine RdS.sub [0,1,2,3,4,5,6,7,8,9,10,11,12,13,14,15,16,17] (l:=[(1,.ptr 0 0),(5,iA 17)]) (H0:=[.cells [.map 1,.map 2,.map 3,.map 4,.map 5,.map 6,.map 7,.map 8,.map 9,.map 10,.map 11,.map 12,.map 13,.map 14,.map 15,.map 16,.map 17] 337,.map [] 0,.map [] 0,.map [] 0,.map [] 0,.map [] 0,.map [] 0,.map [] 0,.map [] 0,.map [] 0,.map [] 0,.map [] 0,.map [] 0,.map [] 0,.map [] 0,.map [] 0,.map [] 0,.map [] 0]) ⟨rfl,⟨⟨rfl,rfl⟩,⟨rfl,subInt rfl (by decide)⟩,tU⟩,⟨⟨_,rfl,rfl⟩,⟨_,rfl,rfl⟩,⟨_,rfl,rfl⟩,⟨_,rfl,rfl⟩,⟨_,rfl,rfl⟩,⟨_,rfl,rfl⟩,⟨_,rfl,rfl⟩,⟨_,rfl,rfl⟩,⟨_,rfl,rfl⟩,⟨_,rfl,rfl⟩,⟨_,rfl,rfl⟩,⟨_,rfl,rfl⟩,⟨_,rfl,rfl⟩,⟨_,rfl,rfl⟩,⟨_,rfl,rfl⟩,⟨_,rfl,rfl⟩,⟨_,rfl,rfl⟩,⟨_,rfl,rfl⟩,tU⟩⟩ ?_
 refine RdS.step ev_ok rfl ?_
 conv=>whnf
 exact ⟨rfl,rfl⟩
theorem pnewR:CP [] 134 [] [] (fun v H'=>∃a,v=.lit (.pointer (some a))∧H'=[.res (pyrR a fun _=>[])]):=by
 refine CallS.lower (K':=fun v H'=>v=.ptr 0 0∧H'=pyrH fun _=>[]) ?_ ?_
 ·refine CallS.wk pnew0 ?_
  rintro _ _ ⟨rfl,rfl⟩
  exact ⟨_,.same (.map rfl rfl (by simp) (.map rfl rfl (by simp) (.map rfl rfl (by simp) (.map rfl rfl (by simp) (.map rfl rfl (by simp) (.map rfl rfl (by simp) (.map rfl rfl (by simp) (.map rfl rfl (by simp) (.map rfl rfl (by simp) (.map rfl rfl (by simp) (.map rfl rfl (by simp) (.map rfl rfl (by simp) (.map rfl rfl (by simp) (.map rfl rfl (by simp) (.map rfl rfl (by simp) (.map rfl rfl (by simp) (.map rfl rfl (by simp) (.nil)))))))))))))))))),rfl,rfl⟩
 ·rintro _ _ ⟨rfl,rfl⟩
  exact ⟨[],[0,1,2,3,4,5,6,7,8,9,10,11,12,13,14,15,16,17],0,0,pyrH fun _=>[],[],⟨rfl,rfl,tU,⟨⟨_,rfl,rfl⟩,⟨_,rfl,rfl⟩,⟨_,rfl,rfl⟩,⟨_,rfl,rfl⟩,⟨_,rfl,rfl⟩,⟨_,rfl,rfl⟩,⟨_,rfl,rfl⟩,⟨_,rfl,rfl⟩,⟨_,rfl,rfl⟩,⟨_,rfl,rfl⟩,⟨_,rfl,rfl⟩,⟨_,rfl,rfl⟩,⟨_,rfl,rfl⟩,⟨_,rfl,rfl⟩,⟨_,rfl,rfl⟩,⟨_,rfl,rfl⟩,⟨_,rfl,rfl⟩,⟨_,rfl,rfl⟩,tU⟩,.refl _,fun _=>rfl⟩,rfl,fun a=>⟨a,rfl,rfl⟩⟩
end Go.Proofs.YtmbdghclhpboaaaGreat
