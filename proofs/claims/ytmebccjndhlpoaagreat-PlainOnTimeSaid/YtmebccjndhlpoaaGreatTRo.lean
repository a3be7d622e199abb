/- Whatever the configuration, the script and the cycles, the law PlainOnTime returns true (no condition). -/
import Derived.Test.YtmebccjndhlpoaaGreatZ50
import Derived.Test.YtmebccjndhlpoaaGreatTR
namespace Go.Proofs.YtmebccjndhlpoaaGreat
open Go Go.Wk Go.ChangeShapes Go.WideShapes Go.ChangeAt Go.RowKit
set_option maxRecDepth 100000
instance:Inp Tryz.prog 60 (SL UInt8):=xB2 Tryz.underlying60 (by kernel_rfl)
theorem plainOnTime_lifted (os:Os) (started:os.Started) (H:Type) (enc:TypeId×Value→H):
    ReturnsInHanded {} Tryz.checked os 4 .any (Rows.plainOnTimeSpec.pre6 enc Tryz.prog Tryz.f4 Rows.plainOnTimeRow.domain false) (Rows.plainOnTimeSpec.post enc Tryz.prog Tryz.f4 false true false false):=by
  refine returnsInHanded_of_change (C:=Tryz.checked) Tryz.own started (by kernel_rfl) Tryz.func4
    (ChangeSpec.witness6 (enc:=enc) (C:=Tryz.checked) false ⟨#[],#[.agg #[.slice none 0 0,.slice none 0 0,.slice none 0 0,.slice none 0 0,.slice none 0 0,.int .i64 0,.int .i64 0,.int .i64 0,.int .i64 0,.int .i64 0,.int .i64 0,.slice none 0 0,.slice none 0 0],.agg #[.slice none 0 0,.slice none 0 0],.slice none 0 0],[]⟩ 12 (by kernel_rfl) (by kernel_rfl) (by kernel_rfl) (by kernel_rfl)) ?_
  intro W base args ds gs before hval0 hW _ _
  have hval:∀(j:Nat) t v,Tryz.f4.params[j]? =some t→args[j]? =some v→Value.okWide Tryz.prog W .any base t v:=hval0
  have hpost:=fun W' hb=>xI7 (W':=W') (tb:=4) Tryz.laidOut (by kernel_rfl) rfl (by kernel_rfl) Tryz.underlying4 (fun ds hd=>by
    match ds,hd with
    |[_,_,_],_=>exact⟨rfl,rfl,rfl⟩) hW hb
  obtain⟨p,q,hA0,hV,rfl,hfz,hnd⟩:=hW
  have hA:DataW.TrodAll enc Tryz.prog W 0 (fun _=>true) true Tryz.f4.params.toList args.toList ds p:=hA0
  rw[Tryz.params4]at hA hval
  obtain⟨v0,v1,v2,d0,d1,d2,p0,p1,p2,rfl,rfl,rfl,h0,h1,h2⟩:=trodAll_three hA
  obtain⟨a,rfl,za⟩:=xHB (α:=xFi) (t:=33) Tryz.underlying33 (hval 0 _ v0 rfl rfl) (fun _=>rfl) h0
  obtain⟨b,rfl,zb⟩:=xHB (α:=xD4) (t:=37) Tryz.underlying37 (hval 1 _ v1 rfl rfl) (fun _=>rfl) h1
  obtain⟨c,ec,zc⟩:=xKP (α:=SL UInt8) (t:=60) (by kernel_rfl) (hval 2 _ v2 rfl rfl) (fun _=>rfl) h2
  cases ec
  refine(xJ1 (W:=W) (xLG (c:=a.d) (ps:=b.progs.s) (fv:=b.frames.s) (sc:=c.s) (pp:=b.progs.d) (fs:=b.frames.d) (cs:=c.d)) (r:=.bool true) (fun v l' h=>h.1) (fun A hA=>?_)).mono fun e W' ⟨he,hb⟩=>⟨_,he,hpost W' hb⟩
  rcases List.mem_append.1 hA with hA|hA
  · exact fun R hR=>xKo (za R hR) A hA
  simp only[List.mem_cons,List.not_mem_nil,or_false]at hA
  rcases hA with hA|hA|hA|rfl
  · exact fun R hR=>xD1 (zb R hR) A (by rw[hA];exact List.mem_cons_self ..)
  · exact fun R hR=>xD1 (zb R hR) A (by rw[hA];exact List.mem_cons_of_mem _ (List.mem_cons_self ..))
  · exact fun R hR=>xD1 (zb R hR) A (by rw[hA];exact List.mem_cons_of_mem _ (List.mem_cons_of_mem _ (List.mem_cons_self ..)))
  · exact fun R hR=>xp5 (zc R hR)
theorem xNg {a b:Bool} (h1:a=true) (h2:b=true): (a&&b)=true:=by rw[h1,h2];rfl
set_option maxHeartbeats 6400000
theorem xD0:joinedFacts Tryz.pinned.checked.prog 4 Tryz.f4 Rows.plainOnTimeSpec Rows.plainOnTimeRow=true:=by
  unfold joinedFacts
  repeat' (with_reducible refine xNg ?_ ?_)
  all_goals(as_aux_lemma=>kernel_rfl)
theorem xEc:Tryz.pinned.checked.prog.funcNamed Rows.plainOnTimeRow.func=some 4:=by kernel_rfl
theorem xEm:Tryz.f4.isInstance Tryz.pinned.checked.prog Rows.plainOnTimeRow.origin Rows.plainOnTimeRow.targs:=of_decide_eq_true (by kernel_rfl)
theorem xEq:Tryz.f4.isWrapper Tryz.pinned.checked.prog Rows.plainOnTimeRow.wrapper Rows.plainOnTimeRow.mainSum:=by unfold Func.isWrapper;first|(rw[if_pos (by decide+kernel)];kernel_rfl)|(rw[if_neg (by decide+kernel)];exact⟨rfl,rfl⟩)
theorem plainOnTime_holds : Rows.PlainOnTimeSaid :=
  OpenClaim.holds_of_wide 4 Tryz.f4 rfl rfl rfl rfl rfl rfl rfl ⟨rfl,rfl,rfl,rfl,rfl⟩ rfl rfl rfl rfl rfl xEc Tryz.func4 xD0 xEm xEq
    (fun os started H enc _=>plainOnTime_lifted os started H enc)
end Go.Proofs.YtmebccjndhlpoaaGreat
