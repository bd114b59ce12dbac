/- Layer 23: the tally, and the document's, side by side. -/
import Derived.Test.YtkpangeeldhjfaaDoorQuL
namespace Go.Proofs.YtkpangeeldhjfaaDoor
open Go.RowKit
structure QX (w wr : World) (q px : Nat) (who inn gone : List Int) (need term went : Int) (Aw : Option Addr) (cw : Nat) (Ai : Option Addr) (ci : Nat) (Ag : Option Addr) (cg : Nat) (A0 : Option Addr) (c0 : Nat) (Ax : Option Addr) (cx : Nat) (Ay : Option Addr) (cy : Nat) : Prop where
  qu : Qu wr q who inn gone need term went Aw cw Ai ci Ag cg
  x : Holds wr px 37 #[.slice A0 who.length c0, .int .i64 need, .int .i64 (term - went), .slice Ax inn.length cx, .slice Ay gone.length cy]
  ax : At wr Ax (ints .i64 inn)
  ay : At wr Ay (ints .i64 gone)
  bel : Below w.heap.size w wr
  qs : w.heap.size ≤ q
  ps : w.heap.size ≤ px
  qp : q ≠ px
  fw : blk Aw ≠ some px
  fi : blk Ai ≠ some px
  fg : blk Ag ≠ some px
  xq : blk Ax ≠ some q
  xp : blk Ax ≠ some px
  yq : blk Ay ≠ some q
  yp : blk Ay ≠ some px
  ap : Ap who inn gone
  wb : 0 ≤ went ∧ went ≤ term ∧ term ≤ 1000
section
variable {w wr W w' : World} {q px : Nat} {who inn inn' gone gone' : List Int} {need term went went' : Int} {Aw Ai Ai' Ag Ag' A0 Ax Ax' Ay Ay' : Option Addr} {cw ci ci' cg cg' c0 cx cx' cy cy' : Nat}
theorem QX.later (h : QX w wr q px who inn gone need term went Aw cw Ai ci Ag cg A0 c0 Ax cx Ay cy) (hb : Below wr.heap.size wr w') : QX w w' q px who inn gone need term went Aw cw Ai ci Ag cg A0 c0 Ax cx Ay cy :=
  ⟨h.qu.later hb, h.x.later hb (Nat.le_refl _), h.ax.later hb (Nat.le_refl _), h.ay.later hb (Nat.le_refl _), h.bel.trans (hb.mono h.bel.size), h.qs, h.ps, h.qp, h.fw, h.fi, h.fg, h.xq, h.xp, h.yq, h.yp, h.ap, h.wb⟩
theorem Qu.other (h : Qu wr q who inn gone need term went Aw cw Ai ci Ag cg) (hg : wr.grownBy w' (some px)) (h1 : q ≠ px) (h2 : blk Aw ≠ some px) (h3 : blk Ai ≠ some px) (h4 : blk Ag ≠ some px) : Qu w' q who inn gone need term went Aw cw Ai ci Ag cg :=
  ⟨h.lay.grown hg (fun e => h1 (by injection e with e; exact e.symm)), h.atw.grown hg (.inr h2), h.ati.grown hg (.inr h3), h.atg.grown hg (.inr h4), fun k e => ⟨Nat.lt_of_lt_of_le (h.farw k e).1 hg.size, (h.farw k e).2⟩, fun k e => ⟨Nat.lt_of_lt_of_le (h.fari k e).1 hg.size, (h.fari k e).2⟩, fun k e => ⟨Nat.lt_of_lt_of_le (h.farg k e).1 hg.size, (h.farg k e).2⟩, h.nili, h.lenw, h.leni, h.leng⟩
/-- the document's tally is stored anew -/
theorem QX.store (h : QX w wr q px who inn gone need term went Aw cw Ai ci Ag cg A0 c0 Ax cx Ay cy) (v2 v3 v4 : Value)
    (hW : W = (((((wr.setCell ⟨px, 0, none⟩ (.slice A0 who.length c0)).setCell ⟨px, 1, none⟩ (.int .i64 need)).setCell ⟨px, 2, none⟩ v2).setCell ⟨px, 3, none⟩ v3).setCell ⟨px, 4, none⟩ v4)) :
    Qu W q who inn gone need term went Aw cw Ai ci Ag cg ∧ Holds W px 37 #[.slice A0 who.length c0, .int .i64 need, v2, v3, v4] ∧ Below w.heap.size w W ∧ wr.grownBy W (some px) := by
  have hg : wr.grownBy (((((wr.setCell ⟨px, 0, none⟩ (.slice A0 who.length c0)).setCell ⟨px, 1, none⟩ (.int .i64 need)).setCell ⟨px, 2, none⟩ v2).setCell ⟨px, 3, none⟩ v3).setCell ⟨px, 4, none⟩ v4) (some px) := grown_set (grown_set (grown_set (grown_set (grown_set (grown_refl _ _) 0 _) 1 _) 2 _) 3 _) 4 _
  obtain ⟨h1, h2⟩ := five (w := w) (v0 := .slice A0 who.length c0) (v1 := .int .i64 need) (v2 := v2) (v3 := v3) (v4 := v4) h.x h.bel h.ps
  subst hW
  exact ⟨h.qu.other hg h.qp h.fw h.fi h.fg, h1, h2, hg⟩
/-- then the tally is told the same -/
theorem QX.next (h : QX w wr q px who inn gone need term went Aw cw Ai ci Ag cg A0 c0 Ax cx Ay cy) (hx : Holds W px 37 #[.slice A0 who.length c0, .int .i64 need, .int .i64 (term - went'), .slice Ax' inn'.length cx', .slice Ay' gone'.length cy'])
    (hb : Below w.heap.size w W) (hg0 : wr.grownBy W (some px)) (h1 : Qu w' q who inn' gone' need term went' Aw cw Ai' ci' Ag' cg') (hg : W.grownBy w' (some q))
    (hax : At wr Ax' (ints .i64 inn')) (hay : At wr Ay' (ints .i64 gone')) (hxq : blk Ax' ≠ some q) (hxp : blk Ax' ≠ some px) (hyq : blk Ay' ≠ some q) (hyp : blk Ay' ≠ some px)
    (hfi : blk Ai' ≠ some px) (hfg : blk Ag' ≠ some px) (hap : Ap who inn' gone') (hwb : 0 ≤ went' ∧ went' ≤ term ∧ term ≤ 1000) :
    QX w w' q px who inn' gone' need term went' Aw cw Ai' ci' Ag' cg' A0 c0 Ax' cx' Ay' cy' :=
  ⟨h1, hx.grown hg (fun e => h.qp (by injection e)), (hax.grown hg0 (.inr hxp)).grown hg (.inr hxq), (hay.grown hg0 (.inr hyp)).grown hg (.inr hyq), below_grown hb hg h.qs, h.qs, h.ps, h.qp, h.fw, hfi, hfg, hxq, hxp, hyq, hyp, hap, hwb⟩
end
end Go.Proofs.YtkpangeeldhjfaaDoor
