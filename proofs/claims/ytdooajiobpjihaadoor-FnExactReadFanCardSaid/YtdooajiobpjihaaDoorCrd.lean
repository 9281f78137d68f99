/- The frame of a card whose library's variables are of two kinds: those listed, and those of which the world's shape alone is known. -/
import Derived.Test.YtdooajiobpjihaaDoorRdDC
import Derived.Test.YtdooajiobpjihaaDoorFrame
import Derived.Handed
import Derived.LaidLaws
namespace Go.Proofs.YtdooajiobpjihaaDoor
set_option linter.unusedVariables false
set_option linter.unusedSimpArgs false
open Go.ChangeShapes Go.WideShapes Go.ChangeAt Go.RowKit
/-- From a contract that takes the listed variables and the world's shape to what a row asks. -/
theorem handed_shaped {H : Type} {enc : TypeId × Value → H} {C : Checked} {os : Os} {f : FuncId} {fn : Func} {s : ChangeSpec} {fresh handsOn again : Bool} {X : World → Array Value → Prop}
    (turn : ∀ (u u' : World) (xs : Array Value), u.heap = u'.heap → X u xs → X u' xs)
    (h1 : ownKnob C.prog.godebug = none) (h2 : os.Started) (h3 : C.prog.inits.idxOf? f = none) (h4 : C.prog.funcs[f]? = some fn)
    (h5 : ∃ (u : World) (tp : Tape) (i : Input), u.os = os ∧ (u.forCall tp i).Shaped C.prog ∧ i.vars = [] ∧ Input.okWide C.prog (u.forCall tp i) .any u.heap.size f i ∧
      ((s.pre enc C.prog fn [] false (u.forCall tp i).memory i.args ∧ X (u.forCall tp i).memory i.args) ∧ sizedMet enc C.prog fn (OpenSpec.ofChange s) false (u.forCall tp i).memory i.args) ∧ ({} : Assume).holds C.prog (lone (Frame.enter C.prog f i.args .normal) [] (u.forCall tp i)))
    (h6 : ∀ (W : World) (base : Nat) (xs : Array Value) (ds gs : List (DataW H)) (places : List MemPlace),
      (∀ (j : Nat) t v, fn.params[j]? = some t → xs[j]? = some v → Value.okWide C.prog W .any base t v) →
      DataW.Whole enc C.prog fn.params.toList s.vars false W xs.toList ds gs places → X W xs → W.ShapedOpen C.prog →
      Calls C.prog f xs W fun e W' => ∃ v, e = .returned v ∧ s.post enc C.prog fn false fresh handsOn again W xs v W') :
    ReturnsInHanded {} C os f .any (fun u xs => (s.pre enc C.prog fn [] false u xs ∧ X u xs) ∧ sizedMet enc C.prog fn (OpenSpec.ofChange s) false u xs) (s.post enc C.prog fn false fresh handsOn again) :=
  returnsInHanded_of_calls h1 h2 h3 h5 fun u tp i _ hshape _ hok hp _ => by
    obtain ⟨_, _, _, fn2, e2, _, _, _, _, hargs⟩ := hok
    rw [h4] at e2
    obtain rfl := Option.some.inj e2
    obtain ⟨⟨⟨ds, gs, places, hwhole, _⟩, hx⟩, _⟩ := hp
    refine (h6 _ u.heap.size i.args ds gs places hargs (hwhole.of_heap (by rfl)) (turn _ _ _ (by rfl) hx) hshape).mono ?_
    rintro _ W' ⟨v, rfl, hpost⟩
    exact ChangeSpec.post_blind hpost
theorem iface_one {H : Type} {enc : TypeId × Value → H} {P : Program} {W : World} {base : Nat} {sp : Nat → Bool} {fuel : Nat} {ti : TypeId} {ms : Array (String × TypeId)} {cs : Array Value} {nm : String} {d : DataW H} {p : List MemPlace}
    (hi : P.underlying ti = some (.interface ms)) (h : DataW.trod enc P W base sp false fuel ti cs.toList = some (.iface nm d, p)) : ∃ u v, cs = #[.iface u v] := by
  obtain ⟨_, u, v, e, _⟩ := iface_of_trod hi h
  exact ⟨u, v, by rw [← Array.toList_inj, e]⟩
theorem lib3_of {W : World} {cs4 cs5 : Array Value} {f4 f5 : Nat} {p4 p5 : List MemPlace} {e4 e5 : DataW Unit} {b4 b5 : Nat}
    {enc : TypeId × Value → Unit} {n4 n5 : String} {sp4 sp5 : Nat → Bool}
    (hp : Pow W) (hr : W.var? Tryd.prog "strconv.ErrRange" = some cs4) (dr : DataW.trod enc Tryd.prog W b4 sp4 false f4 94 cs4.toList = some (.iface n4 e4, p4))
    (hs : W.var? Tryd.prog "strconv.ErrSyntax" = some cs5) (dsy : DataW.trod enc Tryd.prog W b5 sp5 false f5 94 cs5.toList = some (.iface n5 e5, p5)) (hsh : W.ShapedOpen Tryd.prog) : Lib3 W := by
  obtain ⟨u, v, rfl⟩ := iface_one Tryd.underlying94 dr
  obtain ⟨u', v', rfl⟩ := iface_one Tryd.underlying94 dsy
  exact ⟨hp, Tryd.laysM145.s1_3 W hsh, ⟨u', v', hs⟩, ⟨u, v, hr⟩⟩
end Go.Proofs.YtdooajiobpjihaaDoor
