/- A part of the proof. -/
import Derived.Test.YtmnjcogpchodhaaGreatMHD
import Derived.Test.YtmnjcogpchodhaaGreatMCA
import Derived.Test.YtmnjcogpchodhaaGreatMGE
set_option linter.all false
set_option maxHeartbeats 4000000
set_option maxRecDepth 100000
namespace Go.Af.Tryz
open Go Go.Proofs Tryz
attribute [local irreducible] awp qj qI qK qE qm isCells ql qi qB qx qh roundEnd

theorem LOk2.one {H0:List Blk} {L:List (Bool × Nat × Blk)} {d hi lo:Int} {g:Int->List Msg} {tot:List Msg} {z:LS} {q:Msg} (h:LOk2 H0 L d hi g tot lo z) (hv:z.v<hi) (hd:1<=d) (hg:g z.v = [q]) :
 ∃ m,z.n=m+1/\z.E.length<tot.length/\∀ H' k' x y M',HS H0 none' ((true,k',mgB (z.E ++ [(q,x,y)]))::(L++rwM M')) H' -> (∀ p∈z.M,p∈M')->(x,q.sr)∈M' -> (y,q.ds)∈M' -> LOk2 H0 L d hi g tot lo ⟨H',k',z.E ++ [(q,x,y)],M',z.v+d,m⟩:=by
 obtain ⟨m,hm,he,hf⟩:=lp_t hv h.fuel hd;have e:=h.eq;rw[he,List.flatMap_cons,hg] at e;have hl:=congrArg List.length e;simp only[List.length_append,List.length_cons,List.length_map,List.length_nil] at hl;refine⟨m,hm,by omega,fun H' k' x y M' hs hM hx hy=>⟨hs,(h.inn.mono hM).snoc hx hy,by rw[<- e];simp,hf,by have:=h.lo;dsimp only;omega,by rw[List.length_append,List.length_singleton];omega⟩⟩
theorem LOk2.none {H0:List Blk} {L:List (Bool × Nat × Blk)} {d hi lo:Int} {g:Int->List Msg} {tot:List Msg} {z:LS} (h:LOk2 H0 L d hi g tot lo z) (hv:z.v<hi) (hd:1<=d) (hg:g z.v = []) :
 ∃ m,z.n=m+1/\∀ H',HS H0 none' ((true,z.k,mgB z.E)::(L++rwM z.M)) H' -> LOk2 H0 L d hi g tot lo ⟨H',z.k,z.E,z.M,z.v+d,m⟩:=by
 obtain ⟨m,hm,he,hf⟩:=lp_t hv h.fuel hd;have e:=h.eq;rw[he,List.flatMap_cons,hg,List.nil_append] at e;exact⟨m,hm,fun H' hs=>⟨hs,h.inn,e,hf,by have:=h.lo;dsimp only;omega,h.le⟩⟩
def chS (t:Tk) (i v:Int):Int:=if t.op=2 then i-(t.pr-2-v) else i-v
def chM (t:Tk) (i v:Int):Msg:=if t.op=2 then ⟨relF t (v+1),relF t v,[chS t i v],[chS t i v],2⟩ else ⟨relF t v,relF t (v+1),[chS t i v],[chS t i v],0⟩
def chG (t:Tk) (i v:Int):List Msg:=if 0<=chS t i v/\chS t i v<t.pa then [chM t i v] else []
def chR (t:Tk) (i:Int):List Msg:=(lpF 64 0 1 (t.pr-1)).flatMap (chG t i)
def chnF (t:Tk):List (List Msg):=if t.pr=1 then [] else (List.range (t.pa+t.pr-2).toNat).map (fun i:Nat=>chR t (i:Int))
theorem e205 {H:List Blk} {l xb b c:Nat} {wx:Bool} {t:Tk} {o:Nat->Prop} {I:List (List Msg)->(Nat->Prop)->List Blk->Prop} {R:List Blk->Prop} (kt:TkOk t) (hx:Own o H xb (.cells wx 1 (tkC t b c))) (g:Tb o H t b c)
 (hR:RoundsM l H.length (chnF t) I) (h0:I [] o H) (h : ∀ o' H',I (chnF t) o' H' -> R H'):qj prog 205 [yM l,pM xb] H (fun _ H' => R H'):=by
 have hpr:=kt.pr;have hro:=kt.ro;have hpa:=kt.pa;refine avN call205 func205 ntmps205 ?_;have hs:HS H none' [(false,xb, .cells wx 1 (tkC t b c))] H:=(HS.start H none').add hx.1 (fun i p hi=>by simp at hi) (fun e=>by cases e);by_cases hp1:t.pr=1
 ·have e1:chnF t = []:=by unfold chnF;rw[if_pos hp1]
  rw[e1] at h;refine wo tok mx [0,1,0,4,3,31] [false,false,true,true,true,false] [0,1,2,3,4,5] (by kernel_rfl) ?_;refine vT (fun K0 hK0=>?_)
  repeat' first|refine zQw ?_|intro _ _ hs|intro K0 hK0|intro hc|refine dI ?_ ?_
  exact h _ _ h0
 have hrl:(chnF t).length=(t.pa+t.pr-2).toNat:=by unfold chnF;rw[if_neg hp1];simp
 refine wo tok mx [0,1,0,4,3,31] [false,false,true,true,true,false] [0,1,2,3,4,5] (by kernel_rfl) ?_;refine vT (fun K0 hK0=>?_)
 repeat' first|refine zQw ?_|intro _ _ hs|intro K0 hK0|intro hc|refine dI ?_ ?_
 clear hs
 refine qf (α := YS) tok (fun z=>H.length<=z.H.length/\I ((chnF t).take z.i) z.o z.H/\Own z.o z.H xb (.cells wx 1 (tkC t b c))/\Tb z.o z.H t b c/\z.i<=(t.pa+t.pr-2).toNat)
  (fun z=>[(0,yM l),(1,pM xb),(3, .int .i64 t.pr),(4, .int .i64 t.pa),(19, .int .i64 (t.pa+t.pr-2)),(20, .int .i64 (z.i:Int))]) (fun z=>z.H) (fun z=>(t.pa+t.pr-2).toNat-z.i)
  ⟨H,o,0⟩ ⟨Nat.le_refl _,h0,hx,g,Nat.zero_le _⟩ (Or.inl ⟨⟨rfl,rfl,rfl,rfl,rfl,rfl,trivial⟩,rfl⟩) ?_
 clear hx g h0;rintro ⟨H2,o2,i⟩ ⟨hl,hI,hx,g,hi⟩;dsimp only at hl hI hx g hi ⊢;have hs:HS H2 none' [(false,xb, .cells wx 1 (tkC t b c))] H2:=(HS.start H2 none').add hx.1 (fun i p hi=>by simp at hi) (fun e=>by cases e);by_cases hil:(i:Int)<t.pa+t.pr-2
 ·have hlt:i<(chnF t).length:=by omega
  have hms:(chnF t)[i]! = chR t (i:Int):=by rw[getElem!_pos _ i hlt];simp[chnF,hp1]
  have gr:=g.r;have gw:=g.w;have htl:(chR t (i:Int)).length<=64*1:=QF (fun v=>by unfold chG;split <;> simp) _ _
  repeat' first|refine zQw ?_|intro _ _ hs|intro K0 hK0|intro hc|refine dI ?_ ?_
  refine vC (α := LS) tok (fun z=>LOk2 H2 [(false,xb, .cells wx 1 (tkC t b c))] 1 (t.pr-1) (chG t (i:Int)) (chR t (i:Int)) 0 z/\z.v<=1000)
   (fun z=>[(0,yM l),(1,pM xb),(3, .int .i64 t.pr),(4, .int .i64 t.pa),(5, .int .i64 (i:Int)),(6,sv z.k z.E.length),(19, .int .i64 (t.pa+t.pr-2)),(20, .int .i64 (i:Int)),(24, .int .i64 (t.pr-1)),(25, .int .i64 z.v)]) (fun z=>z.H) (fun z=>z.n)
   ⟨H2 ++ [mgB []],H2.length,[],[],0,64⟩ ⟨⟨hs.virt _,MgIn.nil _,rfl,by dsimp only;omega,Int.le_refl _,Nat.zero_le _⟩,by dsimp only;omega⟩ ⟨⟨_,rfl, .rfl⟩,⟨_,rfl, .rfl⟩,⟨_,rfl, .rfl⟩,⟨_,rfl, .rfl⟩,⟨_,rfl, .rfl⟩,⟨_,rfl, .nil _⟩,⟨_,rfl, .rfl⟩,⟨_,rfl, .rfl⟩,⟨_,rfl, .rfl⟩,⟨_,rfl, .rfl⟩,trivial⟩ (WkH.rfl.app _) ?_
  clear hs;rintro ⟨H3,k,E,M,v,n⟩ ⟨hz,hvm⟩;have hs:=hz.hs;have hlo:=hz.lo;dsimp only[List.cons_append,List.nil_append] at hs hlo hvm ⊢;by_cases hv:v<t.pr-1
  ·have hsn:chS t (i:Int) v=if t.op=2 then (i:Int)-(t.pr-2-v) else (i:Int)-v:=rfl
   have hmm:chM t (i:Int) v=if t.op=2 then ⟨relF t (v+1),relF t v,[chS t i v],[chS t i v],2⟩ else ⟨relF t v,relF t (v+1),[chS t i v],[chS t i v],0⟩:=rfl
   by_cases hop:t.op=2
   ·rw[if_pos hop] at hsn hmm
    by_cases hin:0<=(i:Int)-(t.pr-2-v)/\(i:Int)-(t.pr-2-v)<t.pa
    ·have hg:chG t (i:Int) v = [chM t (i:Int) v]:=by unfold chG;rw[hsn,if_pos hin]
     rw[hmm,hsn] at hg;obtain ⟨m,hm,hlt2,hstep⟩:=hz.one hv (by decide) hg;dsimp only[List.cons_append,List.nil_append] at hm hlt2 hstep
     repeat' first|refine zQw ?_|intro _ _ hs|intro K0 hK0|intro hc|refine dI ?_ ?_
     refine qp tok mx [0,0,3,0,0,24,0,0,128,504,1016,0,4095,8191] [false,false,false,false,true,true,true,true,true,false,false,true,false,false] (.first 0 (.first 1 (.first 2 (.first 3 (.first 4 (.first 6 (.first 7 (.first 8 (.alt 5 (.alt 9 (.alt 10 (.first 11 (.first 12 (.first 13 .done))) (.alt 11 (.first 10 (.first 12 (.first 13 .done))) .no)) (.alt 11 (.first 9 (.first 10 (.first 12 (.first 13 .done)))) .no)) (.alt 11 (.first 5 (.first 9 (.first 10 (.first 12 (.first 13 .done))))) .no)))))))))) (by kernel_rfl) ?_;refine qw (fun K0 hK0=>?_)
     repeat' first|refine zPw ?_|intro _ _ hs|intro K0 hK0
     iterate 5 (
      all_goals try (first | refine And.intro ?_ trivial | refine And.intro ?_ (And.intro ?_ trivial) | refine And.intro ?_ (And.intro ?_ (And.intro ?_ trivial)))
      all_goals try (
       repeat' first|refine zPw ?_|intro _ _ hs|intro K0 hK0
       )
      all_goals try (
       first
        | refine wz (gr.up (qc hs)) (gw.up (qc hs)) hpr hro (by omega) ?_
        | refine (wz (gr.up (qc hs)) (gw.up (qc hs)) hpr hro (by omega) ?_).call
       )
      all_goals try (
       repeat' first|refine zPw ?_|intro _ _ hs|intro K0 hK0
       )
      all_goals try (
       refine c200 rfl (kNo hs (fun H4 hs=>?_))
       repeat' first|refine zPw ?_|intro _ _ hs|intro K0 hK0
       )
      )
     all_goals (
      repeat' first|refine zQw ?_|intro _ _ hs|intro K0 hK0|intro hc|refine dI ?_ ?_
      )
     all_goals (
      refine qp tok mx [0,0,2,0,14,31,0,0,128,448,0,0,4032,8128,16383,32767] [false,false,false,false,false,false,false,true,true,true,true,true,false,false,false,false] (.first 0 (.first 1 (.first 2 (.first 3 (.first 4 (.first 5 (.first 6 (.first 7 (.first 8 (.first 10 (.first 11 (.first 9 (.first 12 (.first 13 (.first 14 (.first 15 .done)))))))))))))))) (by kernel_rfl) ?_;refine qw (fun K0 hK0=>?_)
      )
     iterate 5 (
      all_goals try (first | refine And.intro ?_ trivial | refine And.intro ?_ (And.intro ?_ trivial) | refine And.intro ?_ (And.intro ?_ (And.intro ?_ trivial)))
      all_goals try (
       repeat' first|refine zPw ?_|intro _ _ hs|intro K0 hK0
       )
      all_goals try (
       first
        | refine wz (gr.up (qc hs)) (gw.up (qc hs)) hpr hro (by omega) ?_
        | refine (wz (gr.up (qc hs)) (gw.up (qc hs)) hpr hro (by omega) ?_).call
       )
      all_goals try (
       repeat' first|refine zPw ?_|intro _ _ hs|intro K0 hK0
       )
      all_goals try (
       refine c200 rfl (kNo hs (fun H4 hs=>?_))
       repeat' first|refine zPw ?_|intro _ _ hs|intro K0 hK0
       )
      )
     all_goals (
      repeat' first|refine zQw ?_|intro _ _ hs|intro K0 hK0|intro hc|refine dI ?_ ?_
      )
     all_goals (
      refine vZ hs 4 (us:=mgC ⟨relF t (v+1),relF t v,[(i:Int)-(t.pr-2-v)],[(i:Int)-(t.pr-2-v)],2⟩ _ _) rfl (by decide) (hs.get 0 rfl) rfl rfl (by rw[wP]) (by dsimp only;omega) (fun H7 k' _ _ hs=>?_);rw[<- wY] at hs
      repeat' first|refine zPw ?_|intro _ _ hs|intro K0 hK0
      refine⟨_,⟨hstep H7 k' _ _ ((_,[(i:Int)-(t.pr-2-v)])::(_,[(i:Int)-(t.pr-2-v)])::M) (hs.pickR (A := [_,_,_,_,_,_]) [4,5,1,2] (by decide) (A' := [_,_,_,_]) rfl) (fun q hq=>List.mem_cons_of_mem _ (List.mem_cons_of_mem _ hq)) (List.mem_cons_of_mem _ List.mem_cons_self) List.mem_cons_self,by dsimp only;omega⟩,by dsimp only;omega,Or.inl ⟨⟨rfl,rfl,rfl,rfl,rfl,by dsimp only;rw[List.length_append];rfl,rfl,rfl,rfl,rfl,trivial⟩,rfl⟩⟩
      )
    ·have hg:chG t (i:Int) v = []:=by unfold chG;rw[hsn,if_neg hin]
     obtain ⟨m,hm,hstep⟩:=hz.none hv (by decide) hg;dsimp only[List.cons_append,List.nil_append] at hm hstep
     repeat' first|refine zQw ?_|intro _ _ hs|intro K0 hK0|intro hc|refine dI ?_ ?_
     refine qp tok mx [0,0,3,0,0,24,0,0,128,504,1016,0,4095,8191] [false,false,false,false,true,true,true,true,true,false,false,true,false,false] (.first 0 (.first 1 (.first 2 (.first 3 (.first 4 (.first 6 (.first 7 (.first 8 (.alt 5 (.alt 9 (.alt 10 (.first 11 (.first 12 (.first 13 .done))) (.alt 11 (.first 10 (.first 12 (.first 13 .done))) .no)) (.alt 11 (.first 9 (.first 10 (.first 12 (.first 13 .done)))) .no)) (.alt 11 (.first 5 (.first 9 (.first 10 (.first 12 (.first 13 .done))))) .no)))))))))) (by kernel_rfl) ?_;refine qw (fun K0 hK0=>?_)
     repeat' first|refine zPw ?_|intro _ _ hs|intro K0 hK0
     iterate 5 (
      all_goals try (first | refine And.intro ?_ trivial | refine And.intro ?_ (And.intro ?_ trivial) | refine And.intro ?_ (And.intro ?_ (And.intro ?_ trivial)))
      all_goals try (
       repeat' first|refine zPw ?_|intro _ _ hs|intro K0 hK0
       )
      all_goals try (
       first
        | refine wz (gr.up (qc hs)) (gw.up (qc hs)) hpr hro (by omega) ?_
        | refine (wz (gr.up (qc hs)) (gw.up (qc hs)) hpr hro (by omega) ?_).call
       )
      all_goals try (
       repeat' first|refine zPw ?_|intro _ _ hs|intro K0 hK0
       )
      all_goals try (
       refine c200 rfl (kNo hs (fun H4 hs=>?_))
       repeat' first|refine zPw ?_|intro _ _ hs|intro K0 hK0
       )
      )
     all_goals (
      repeat' first|refine zQw ?_|intro _ _ hs|intro K0 hK0|intro hc|refine dI ?_ ?_
      )
     all_goals (
      refine qp tok mx [0,0,2,0,14,31,0,0,128,448,0,0,4032,8128,16383,32767] [false,false,false,false,false,false,false,true,true,true,true,true,false,false,false,false] (.first 0 (.first 1 (.first 2 (.first 3 (.first 4 (.first 5 (.first 6 (.first 7 (.first 8 (.first 10 (.first 11 (.first 9 (.first 12 (.first 13 (.first 14 (.first 15 .done)))))))))))))))) (by kernel_rfl) ?_;refine qw (fun K0 hK0=>?_)
      )
     iterate 5 (
      all_goals try (first | refine And.intro ?_ trivial | refine And.intro ?_ (And.intro ?_ trivial) | refine And.intro ?_ (And.intro ?_ (And.intro ?_ trivial)))
      all_goals try (
       repeat' first|refine zPw ?_|intro _ _ hs|intro K0 hK0
       )
      all_goals try (
       first
        | refine wz (gr.up (qc hs)) (gw.up (qc hs)) hpr hro (by omega) ?_
        | refine (wz (gr.up (qc hs)) (gw.up (qc hs)) hpr hro (by omega) ?_).call
       )
      all_goals try (
       repeat' first|refine zPw ?_|intro _ _ hs|intro K0 hK0
       )
      all_goals try (
       refine c200 rfl (kNo hs (fun H4 hs=>?_))
       repeat' first|refine zPw ?_|intro _ _ hs|intro K0 hK0
       )
      )
     all_goals (
      repeat' first|refine zQw ?_|intro _ _ hs|intro K0 hK0|intro hc|refine dI ?_ ?_
      )
     all_goals exact⟨_,⟨hstep _ (hs.pickR (A := [_,_,_]) [1,2] (by decide) (A' := [_,_]) rfl),by dsimp only;omega⟩,by dsimp only;omega,Or.inl ⟨⟨rfl,rfl,rfl,rfl,rfl,rfl,rfl,rfl,rfl,rfl,trivial⟩,rfl⟩⟩
   ·rw[if_neg hop] at hsn hmm
    by_cases hin:0<=(i:Int)-v/\(i:Int)-v<t.pa
    ·have hg:chG t (i:Int) v = [chM t (i:Int) v]:=by unfold chG;rw[hsn,if_pos hin]
     rw[hmm,hsn] at hg;obtain ⟨m,hm,hlt2,hstep⟩:=hz.one hv (by decide) hg;dsimp only[List.cons_append,List.nil_append] at hm hlt2 hstep
     repeat' first|refine zQw ?_|intro _ _ hs|intro K0 hK0|intro hc|refine dI ?_ ?_
     refine qp tok mx [0,0,3,0,0,24,0,0,128,504,1016,0,4095,8191] [false,false,false,false,true,true,true,true,true,false,false,true,false,false] (.first 0 (.first 1 (.first 2 (.first 3 (.first 4 (.first 6 (.first 7 (.first 8 (.alt 5 (.alt 9 (.alt 10 (.first 11 (.first 12 (.first 13 .done))) (.alt 11 (.first 10 (.first 12 (.first 13 .done))) .no)) (.alt 11 (.first 9 (.first 10 (.first 12 (.first 13 .done)))) .no)) (.alt 11 (.first 5 (.first 9 (.first 10 (.first 12 (.first 13 .done))))) .no)))))))))) (by kernel_rfl) ?_;refine qw (fun K0 hK0=>?_)
     repeat' first|refine zPw ?_|intro _ _ hs|intro K0 hK0
     iterate 5 (
      all_goals try (first | refine And.intro ?_ trivial | refine And.intro ?_ (And.intro ?_ trivial) | refine And.intro ?_ (And.intro ?_ (And.intro ?_ trivial)))
      all_goals try (
       repeat' first|refine zPw ?_|intro _ _ hs|intro K0 hK0
       )
      all_goals try (
       first
        | refine wz (gr.up (qc hs)) (gw.up (qc hs)) hpr hro (by omega) ?_
        | refine (wz (gr.up (qc hs)) (gw.up (qc hs)) hpr hro (by omega) ?_).call
       )
      all_goals try (
       repeat' first|refine zPw ?_|intro _ _ hs|intro K0 hK0
       )
      all_goals try (
       refine c200 rfl (kNo hs (fun H4 hs=>?_))
       repeat' first|refine zPw ?_|intro _ _ hs|intro K0 hK0
       )
      )
     all_goals (
      repeat' first|refine zQw ?_|intro _ _ hs|intro K0 hK0|intro hc|refine dI ?_ ?_
      )
     all_goals (
      refine vZ hs 4 (us:=mgC ⟨relF t v,relF t (v+1),[(i:Int)-v],[(i:Int)-v],0⟩ _ _) rfl (by decide) (hs.get 0 rfl) rfl rfl (by rw[wP]) (by dsimp only;omega) (fun H7 k' _ _ hs=>?_);rw[<- wY] at hs
      repeat' first|refine zPw ?_|intro _ _ hs|intro K0 hK0
      refine⟨_,⟨hstep H7 k' _ _ ((_,[(i:Int)-v])::(_,[(i:Int)-v])::M) (hs.pickR (A := [_,_,_,_,_,_]) [4,5,1,2] (by decide) (A' := [_,_,_,_]) rfl) (fun q hq=>List.mem_cons_of_mem _ (List.mem_cons_of_mem _ hq)) (List.mem_cons_of_mem _ List.mem_cons_self) List.mem_cons_self,by dsimp only;omega⟩,by dsimp only;omega,Or.inl ⟨⟨rfl,rfl,rfl,rfl,rfl,by dsimp only;rw[List.length_append];rfl,rfl,rfl,rfl,rfl,trivial⟩,rfl⟩⟩
      )
    ·have hg:chG t (i:Int) v = []:=by unfold chG;rw[hsn,if_neg hin]
     obtain ⟨m,hm,hstep⟩:=hz.none hv (by decide) hg;dsimp only[List.cons_append,List.nil_append] at hm hstep
     repeat' first|refine zQw ?_|intro _ _ hs|intro K0 hK0|intro hc|refine dI ?_ ?_
     refine qp tok mx [0,0,3,0,0,24,0,0,128,504,1016,0,4095,8191] [false,false,false,false,true,true,true,true,true,false,false,true,false,false] (.first 0 (.first 1 (.first 2 (.first 3 (.first 4 (.first 6 (.first 7 (.first 8 (.alt 5 (.alt 9 (.alt 10 (.first 11 (.first 12 (.first 13 .done))) (.alt 11 (.first 10 (.first 12 (.first 13 .done))) .no)) (.alt 11 (.first 9 (.first 10 (.first 12 (.first 13 .done)))) .no)) (.alt 11 (.first 5 (.first 9 (.first 10 (.first 12 (.first 13 .done))))) .no)))))))))) (by kernel_rfl) ?_;refine qw (fun K0 hK0=>?_)
     repeat' first|refine zPw ?_|intro _ _ hs|intro K0 hK0
     iterate 5 (
      all_goals try (first | refine And.intro ?_ trivial | refine And.intro ?_ (And.intro ?_ trivial) | refine And.intro ?_ (And.intro ?_ (And.intro ?_ trivial)))
      all_goals try (
       repeat' first|refine zPw ?_|intro _ _ hs|intro K0 hK0
       )
      all_goals try (
       first
        | refine wz (gr.up (qc hs)) (gw.up (qc hs)) hpr hro (by omega) ?_
        | refine (wz (gr.up (qc hs)) (gw.up (qc hs)) hpr hro (by omega) ?_).call
       )
      all_goals try (
       repeat' first|refine zPw ?_|intro _ _ hs|intro K0 hK0
       )
      all_goals try (
       refine c200 rfl (kNo hs (fun H4 hs=>?_))
       repeat' first|refine zPw ?_|intro _ _ hs|intro K0 hK0
       )
      )
     all_goals (
      repeat' first|refine zQw ?_|intro _ _ hs|intro K0 hK0|intro hc|refine dI ?_ ?_
      )
     all_goals exact⟨_,⟨hstep _ (hs.pickR (A := [_,_,_]) [1,2] (by decide) (A' := [_,_]) rfl),by dsimp only;omega⟩,by dsimp only;omega,Or.inl ⟨⟨rfl,rfl,rfl,rfl,rfl,rfl,rfl,rfl,rfl,rfl,trivial⟩,rfl⟩⟩
  ·have he:=hz.stop (by dsimp only;omega)
   dsimp only at he
   repeat' first|refine zQw ?_|intro _ _ hs|intro K0 hK0|intro hc|refine dI ?_ ?_
   have hn:HS H2 none' ((true,k,mgB E)::rwM M) H3:=hs.pickR (A := [_,_]) [0] (by decide) (A' := [_]) rfl;have hI3:=hR.pure hI hl hn;have hO:=MsO.of (hR.own hI) hn hz.inn he;have hx3:=hx.ext (fun j hj=>hn.u.2 j hj id);have g3:=g.hs (qc hn);have hle:=hn.le;clear hI hx g hs hn hz;have hel:E.length=(chR t (i:Int)).length:=by rw[<- he,List.length_map]
   rw[hel];rw[<- hms] at hO ⊢;refine (hR.step (yP hlt) (by omega) hI3 hO).mono ?_;rintro v H4 ⟨rfl,u,o4,hI4,ho4⟩;rw[xK hlt] at hI4;have hu:=u.1;have hs:=HS.start H4 none'
   repeat' first|refine zPw ?_|intro _ _ hs|intro K0 hK0
   exact⟨⟨H4,o4,i+1⟩,⟨Nat.le_trans hl (Nat.le_trans hle u.1),hI4,hx3.upd u ho4,g3.upd u ho4,by dsimp only;omega⟩,by dsimp only;omega,Or.inl ⟨⟨rfl,rfl,rfl,rfl,rfl,rfl,trivial⟩,rfl⟩⟩
 ·have hie:i=(chnF t).length:=by omega
  subst hie;rw[List.take_length] at hI
  repeat' first|refine zQw ?_|intro _ _ hs|intro K0 hK0|intro hc|refine dI ?_ ?_
  exact h _ _ hI
theorem zr0 {N0:Nat} {HA:List Blk} {t:Tk} (kt:TkOk t) (hN:N0<=HA.length)  : AlgV N0 HA (fnV 112) t (chnF t):=by
 refine⟨_,[],rfl,fun {H2 b c R} hl hsame gr gw h=>?_⟩;refine avN call112 func112 ntmps112 ?_;refine qo (HS.start H2 none') (fun H3 xb e1 l1 hs=>?_);have gr3:=gr.up (qc hs);have gw3:=gw.up (qc hs);have hx3:=hs.get 0 rfl;have hnn:=qc hs;have hxb:H2.length<=xb:=((hs.g (i:=0) rfl).2 rfl).elim (fun h=>h.elim) id;refine qg (fun _ hKs=>hKs _ _ ?_);clear hKs;clear e1 l1
 repeat' first|refine zPw ?_|intro _ _ hs|intro K0 hK0
 refine h _ _ hnn ⟨_,[pM xb],rfl,fun {H4 l o I R'} hl4 hD hR h0 hr=>?_⟩;exact e205 kt (zh hD (.inl (by omega)) hx3) (qQ0 hD (.inr (.inl rfl)) (.inr (.inr rfl)) gr3 gw3) hR h0 hr
end Go.Af.Tryz
namespace Go.Af.Tryz
open Go Go.Proofs Tryz
attribute [local irreducible] awp qj qI qK qE qm isCells ql qi qB qx qh roundEnd

def haM (t:Tk) (d:Nat) (k r:Int):Msg:=blM t r (neF t r d (decide (k=1))) 0 (1+2*(d:Int)+k) 0
def haG (t:Tk) (d:Nat) (k r:Int):List Msg:=if neF t r d (decide (k=1)) = -2 then [] else [haM t d k r]
def haR (t:Tk) (d:Nat) (k:Int):List Msg:=(lpF 64 0 1 t.pr).flatMap (haG t d k)
def hloF (t:Tk):List (List Msg):=(List.range (2*t.sz.length)).map (fun j=>haR t (j / 2) ((j % 2:Nat):Int))
theorem e244 {H:List Blk} {l xb b c:Nat} {wx:Bool} {t:Tk} {o:Nat->Prop} {I:List (List Msg)->(Nat->Prop)->List Blk->Prop} {R:List Blk->Prop} (kt:TkOk t) (h11:t.op=11) (hx:Own o H xb (.cells wx 1 (tkC t b c))) (g:Tb o H t b c)
 (hR:RoundsM l H.length (hloF t) I) (h0:I [] o H) (h : ∀ o' H',I (hloF t) o' H' -> R H'):qj prog 244 [yM l,pM xb] H (fun _ H' => R H'):=by
 have hpr:=kt.pr;have hpa:=kt.pa;have hdm:=kt.dims h11;have hcn:=kt.halo h11;have hrl:(hloF t).length=2*t.sz.length:=by simp[hloF]
 have hcr : ∀ r:Int,0<=r/\r<t.pr->crdE t.sz t.ws.length r=0:=fun r hr=>by
  unfold crdE;rw[if_neg (by omega),if_neg (by omega)]
 refine avN call244 func244 ntmps244 ?_;have hs:HS H none' [(false,xb, .cells wx 1 (tkC t b c))] H:=(HS.start H none').add hx.1 (fun i p hi=>by simp at hi) (fun e=>by cases e)
 repeat' first|refine zPw ?_|intro _ _ hs|intro K0 hK0
 clear hs
 refine qf (α := YS) tok (fun z=>H.length<=z.H.length/\I ((hloF t).take (2*z.i)) z.o z.H/\Own z.o z.H xb (.cells wx 1 (tkC t b c))/\Tb z.o z.H t b c/\z.i<=t.sz.length)
  (fun z=>[(0,yM l),(1,pM xb),(11, .int .i64 (t.sz.length:Int)),(12, .int .i64 (z.i:Int))]) (fun z=>z.H) (fun z=>t.sz.length-z.i)
  ⟨H,o,0⟩ ⟨Nat.le_refl _,h0,hx,g,Nat.zero_le _⟩ (Or.inl ⟨⟨rfl,rfl,rfl,rfl,trivial⟩,rfl⟩) ?_
 clear hx g h0;rintro ⟨H1,o1,d⟩ ⟨hl,hI,hx,g,hi⟩;dsimp only at hl hI hx g hi ⊢;have hs:=HS.start H1 none';by_cases hd:d<t.sz.length
 ·have hdi:(d:Int)<(t.sz.length:Int):=by omega
  repeat' first|refine zQw ?_|intro _ _ hs|intro K0 hK0|intro hc|refine dI ?_ ?_
  clear hs
  refine qf (α := YS) tok (fun z=>H.length<=z.H.length/\I ((hloF t).take (2*d+z.i)) z.o z.H/\Own z.o z.H xb (.cells wx 1 (tkC t b c))/\Tb z.o z.H t b c/\z.i<=2)
   (fun z=>[(0,yM l),(1,pM xb),(3, .int .i64 (d:Int)),(11, .int .i64 (t.sz.length:Int)),(12, .int .i64 (d:Int)),(15, .int .i64 (z.i:Int))]) (fun z=>z.H) (fun z=>2-z.i)
   ⟨H1,o1,0⟩ ⟨hl,hI,hx,g,Nat.zero_le _⟩ (Or.inl ⟨⟨rfl,rfl,rfl,rfl,rfl,rfl,trivial⟩,rfl⟩) ?_
  clear hx g hI hl;rintro ⟨H2,o2,kk⟩ ⟨hl,hI,hx,g,hk2⟩;dsimp only at hl hI hx g hk2 ⊢;have hs:HS H2 none' [(false,xb, .cells wx 1 (tkC t b c))] H2:=(HS.start H2 none').add hx.1 (fun i p hi=>by simp at hi) (fun e=>by cases e);by_cases hkk:(kk:Int)<2
  ·have hlt:2*d+kk<(hloF t).length:=by omega
   have hms:(hloF t)[2*d+kk]! = haR t d (kk:Int):=by
    rw[getElem!_pos (hloF t) _ hlt];simp only[hloF,List.getElem_map,List.getElem_range];rw[show (2*d+kk) / 2=d by omega,show (2*d+kk) % 2=kk by omega]
   have gr:=g.r;have gw:=g.w;have htl:(haR t d (kk:Int)).length<=64*1:=QF (fun v=>by unfold haG;split <;> simp) _ _
   repeat' first|refine zQw ?_|intro _ _ hs|intro K0 hK0|intro hc|refine dI ?_ ?_
   refine vC (α := LS) tok (fun z=>LOk2 H2 [(false,xb, .cells wx 1 (tkC t b c))] 1 t.pr (haG t d (kk:Int)) (haR t d (kk:Int)) 0 z/\z.v<=1000)
    (fun z=>[(0,yM l),(1,pM xb),(3, .int .i64 (d:Int)),(4, .int .i64 (kk:Int)),(5,sv z.k z.E.length),(11, .int .i64 (t.sz.length:Int)),(12, .int .i64 (d:Int)),(15, .int .i64 (kk:Int)),(19, .int .i64 t.pr),(20, .int .i64 z.v)]) (fun z=>z.H) (fun z=>z.n)
    ⟨H2 ++ [mgB []],H2.length,[],[],0,64⟩ ⟨⟨hs.virt _,MgIn.nil _,rfl,by dsimp only;omega,Int.le_refl _,Nat.zero_le _⟩,by dsimp only;omega⟩ ⟨⟨_,rfl, .rfl⟩,⟨_,rfl, .rfl⟩,⟨_,rfl, .rfl⟩,⟨_,rfl, .rfl⟩,⟨_,rfl, .nil _⟩,⟨_,rfl, .rfl⟩,⟨_,rfl, .rfl⟩,⟨_,rfl, .rfl⟩,⟨_,rfl, .rfl⟩,⟨_,rfl, .rfl⟩,trivial⟩ (WkH.rfl.app _) ?_
   clear hs;rintro ⟨H3,k,E,M,v,n⟩ ⟨hz,hvm⟩;have hs:=hz.hs;have hlo:=hz.lo;dsimp only[List.cons_append,List.nil_append] at hs hlo hvm ⊢;by_cases hv:v<t.pr
   ·skip
    repeat' first|refine zQw ?_|intro _ _ hs|intro K0 hK0|intro hc|refine dI ?_ ?_
    refine c162 (gr.up (qc hs)) (gw.up (qc hs)) (hcr v ⟨hlo,hv⟩) hd (kNo hs (fun H4 hs=>?_));have hkz:kk=0\/kk=1:=by omega
    rcases hkz with rfl | rfl
    ·skip
     repeat' first|refine zPw ?_|intro _ _ hs|intro K0 hK0
     refine⟨1,⟨by omega,by decide⟩,_,rfl, ?_⟩;have hb:haG t d ((0:Nat):Int) v=if neF t v d false = -2 then [] else [haM t d ((0:Nat):Int) v]:=rfl
     have hm0:haM t d ((0:Nat):Int) v=blM t v (neF t v d false) 0 (1+2*(d:Int)+((0:Nat):Int)) 0:=rfl;by_cases hnb:neF t v d false = -2
     ·rw[if_pos hnb] at hb
      obtain ⟨m,hm,hstep⟩:=hz.none hv (by decide) hb;dsimp only[List.cons_append,List.nil_append] at hm hstep
      repeat' first|refine zQw ?_|intro _ _ hs|intro K0 hK0|intro hc|refine dI ?_ ?_
      exact⟨_,⟨hstep _ hs,by dsimp only;omega⟩,by dsimp only;omega,Or.inl ⟨⟨rfl,rfl,rfl,rfl,rfl,rfl,rfl,rfl,rfl,rfl,trivial⟩,rfl⟩⟩
     ·rw[if_neg hnb,hm0] at hb
      obtain ⟨m,hm,hlt2,hstep⟩:=hz.one hv (by decide) hb;dsimp only[List.cons_append,List.nil_append] at hm hlt2 hstep
      repeat' first|refine zQw ?_|intro _ _ hs|intro K0 hK0|intro hc|refine dI ?_ ?_
      refine c222 hpa (by omega) (by omega) (fun H5 x y hn=>?_);have hs:=hs.call hn rfl;clear hn
      repeat' first|refine zPw ?_|intro _ _ hs|intro K0 hK0
      refine vZ hs 3 (us:=mgC (blM t v (neF t v d false) 0 (1+2*(d:Int)+((0:Nat):Int)) 0) x y) rfl (by decide) (hs.get 0 rfl) rfl rfl (by rw[wP]) (by dsimp only;omega) (fun H6 k' _ _ hs=>?_);rw[<- wY] at hs
      repeat' first|refine zPw ?_|intro _ _ hs|intro K0 hK0
      exact⟨_,⟨hstep H6 k' x y ((y,_)::(x,_)::M) (hs.pickR (A := [_,_,_,_,_]) [3,4,1,2] (by decide) (A' := [_,_,_,_]) rfl) (fun q hq=>List.mem_cons_of_mem _ (List.mem_cons_of_mem _ hq)) (List.mem_cons_of_mem _ List.mem_cons_self) List.mem_cons_self,by dsimp only;omega⟩,by dsimp only;omega,Or.inl ⟨⟨rfl,rfl,rfl,rfl,by dsimp only;rw[List.length_append];rfl,rfl,rfl,rfl,rfl,rfl,trivial⟩,rfl⟩⟩
    ·skip
     repeat' first|refine zPw ?_|intro _ _ hs|intro K0 hK0
     refine⟨0,⟨by omega,by decide⟩,_,rfl, ?_⟩;have hb:haG t d ((1:Nat):Int) v=if neF t v d true = -2 then [] else [haM t d ((1:Nat):Int) v]:=rfl
     have hm0:haM t d ((1:Nat):Int) v=blM t v (neF t v d true) 0 (1+2*(d:Int)+((1:Nat):Int)) 0:=rfl;by_cases hnb:neF t v d true = -2
     ·rw[if_pos hnb] at hb
      obtain ⟨m,hm,hstep⟩:=hz.none hv (by decide) hb;dsimp only[List.cons_append,List.nil_append] at hm hstep
      repeat' first|refine zQw ?_|intro _ _ hs|intro K0 hK0|intro hc|refine dI ?_ ?_
      exact⟨_,⟨hstep _ hs,by dsimp only;omega⟩,by dsimp only;omega,Or.inl ⟨⟨rfl,rfl,rfl,rfl,rfl,rfl,rfl,rfl,rfl,rfl,trivial⟩,rfl⟩⟩
     ·rw[if_neg hnb,hm0] at hb
      obtain ⟨m,hm,hlt2,hstep⟩:=hz.one hv (by decide) hb;dsimp only[List.cons_append,List.nil_append] at hm hlt2 hstep
      repeat' first|refine zQw ?_|intro _ _ hs|intro K0 hK0|intro hc|refine dI ?_ ?_
      refine c222 hpa (by omega) (by omega) (fun H5 x y hn=>?_);have hs:=hs.call hn rfl;clear hn
      repeat' first|refine zPw ?_|intro _ _ hs|intro K0 hK0
      refine vZ hs 3 (us:=mgC (blM t v (neF t v d true) 0 (1+2*(d:Int)+((1:Nat):Int)) 0) x y) rfl (by decide) (hs.get 0 rfl) rfl rfl (by rw[wP]) (by dsimp only;omega) (fun H6 k' _ _ hs=>?_);rw[<- wY] at hs
      repeat' first|refine zPw ?_|intro _ _ hs|intro K0 hK0
      exact⟨_,⟨hstep H6 k' x y ((y,_)::(x,_)::M) (hs.pickR (A := [_,_,_,_,_]) [3,4,1,2] (by decide) (A' := [_,_,_,_]) rfl) (fun q hq=>List.mem_cons_of_mem _ (List.mem_cons_of_mem _ hq)) (List.mem_cons_of_mem _ List.mem_cons_self) List.mem_cons_self,by dsimp only;omega⟩,by dsimp only;omega,Or.inl ⟨⟨rfl,rfl,rfl,rfl,by dsimp only;rw[List.length_append];rfl,rfl,rfl,rfl,rfl,rfl,trivial⟩,rfl⟩⟩
   ·have he:=hz.stop (by dsimp only;omega)
    dsimp only at he
    repeat' first|refine zQw ?_|intro _ _ hs|intro K0 hK0|intro hc|refine dI ?_ ?_
    have hn:HS H2 none' ((true,k,mgB E)::rwM M) H3:=hs.pickR (A := [_,_]) [0] (by decide) (A' := [_]) rfl;have hI3:=hR.pure hI hl hn;have hO:=MsO.of (hR.own hI) hn hz.inn he;have hx3:=hx.ext (fun j hj=>hn.u.2 j hj id);have g3:=g.hs (qc hn);have hle:=hn.le;clear hI hx g hs hn hz;have hel:E.length=(haR t d (kk:Int)).length:=by rw[<- he,List.length_map]
    rw[hel];rw[<- hms] at hO ⊢;refine (hR.step (yP hlt) (by omega) hI3 hO).mono ?_;rintro v H4 ⟨rfl,u,o4,hI4,ho4⟩;rw[xK hlt] at hI4;have hu:=u.1;have hs:=HS.start H4 none'
    repeat' first|refine zPw ?_|intro _ _ hs|intro K0 hK0
    exact⟨⟨H4,o4,kk+1⟩,⟨Nat.le_trans hl (Nat.le_trans hle u.1),hI4,hx3.upd u ho4,g3.upd u ho4,by dsimp only;omega⟩,by dsimp only;omega,Or.inl ⟨⟨rfl,rfl,rfl,rfl,rfl,rfl,trivial⟩,rfl⟩⟩
  ·have hk3:kk=2:=by omega
   subst hk3
   repeat' first|refine zQw ?_|intro _ _ hs|intro K0 hK0|intro hc|refine dI ?_ ?_
   exact⟨⟨H2,o2,d+1⟩,⟨hl,hI,hx,g,hd⟩,by dsimp only;omega,Or.inl ⟨⟨rfl,rfl,rfl,rfl,trivial⟩,rfl⟩⟩
 ·have hie:d=t.sz.length:=by omega
  have hdi : ¬ (d:Int)<(t.sz.length:Int):=by omega
  rw[List.take_of_length_le (by omega)] at hI
  repeat' first|refine zQw ?_|intro _ _ hs|intro K0 hK0|intro hc|refine dI ?_ ?_
  exact h _ _ hI
theorem Qz0 {N0:Nat} {HA:List Blk} {t:Tk} (kt:TkOk t) (hN:N0<=HA.length) (h11:t.op=11):AlgV N0 HA (fnV 135) t (hloF t):=by
 refine⟨_,[],rfl,fun {H2 b c R} hl hsame gr gw h=>?_⟩;refine avN call135 func135 ntmps135 ?_;refine qo (HS.start H2 none') (fun H3 xb e1 l1 hs=>?_);have gr3:=gr.up (qc hs);have gw3:=gw.up (qc hs);have hx3:=hs.get 0 rfl;have hnn:=qc hs;have hxb:H2.length<=xb:=((hs.g (i:=0) rfl).2 rfl).elim (fun h=>h.elim) id;refine qg (fun _ hKs=>hKs _ _ ?_);clear hKs;clear e1 l1
 repeat' first|refine zPw ?_|intro _ _ hs|intro K0 hK0
 refine h _ _ hnn ⟨_,[pM xb],rfl,fun {H4 l o I R'} hl4 hD hR h0 hr=>?_⟩;exact e244 kt h11 (zh hD (.inl (by omega)) hx3) (qQ0 hD (.inr (.inl rfl)) (.inr (.inr rfl)) gr3 gw3) hR h0 hr
end Go.Af.Tryz
