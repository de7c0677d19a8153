import Derived.Test.YtlpbofhmpfilnaaSelYes
import Derived.Deep.RegionHeld3
namespace Go.Proofs.Ytlpbofhmpfilnaa
open Go.ChangeShapes Go.WideShapes Go.ChangeAt Go.RowKit
open Ieee.Format (fin finE htE allFin allHt all_true all_false mulF subF addF Ht Bd divF rootF floorF easeF mixF)
set_option linter.unusedVariables false

/-- the field's values, each given to a function: by the reference -/
theorem made_map (gn : Nat) (caps : Array Value) (φ : Nat → Nat) (X Y : Int) (Wn Hn : Nat) (l : List Nat) (w : World) (hr : Right X Y Wn Hn l)
    (eg : ∀ args w, (callFunc gn args).run Try.prog w = .ok (.enter gn args) w) (hφ : ∀ v, φ v < 4294967296)
    (hf : ∀ x y, X ≤ x → x < X + Wn → Y ≤ y → y < Y + Hn → ∀ W', Below w.heap.size w W' → Calls Try.prog gn (#[.int .i64 x, .int .i64 y] ++ caps) W' fun e w' => e = .returned (.float .f32 (φ (l.getD (cellNo X Y Wn x y).toNat 0))) ∧ Below W'.heap.size W' w') :
    Calls Try.prog 30 #[reg X Y Wn Hn, .func (.func gn) #[] caps] w fun e w' => OpP (resC (l.map φ)) X Y Wn Hn (l.map φ) w e w' := by
  have g1 := hr.w1; have g2 := hr.w2; have g3 := hr.h1; have g4 := hr.h2; have g5 := hr.x1; have g6 := hr.x2; have g7 := hr.y1; have g8 := hr.y2
  have := made_any gn caps (fun x y => φ (l.getD (cellNo X Y Wn x y).toNat 0)) X Y Wn Hn w (by omega) (by omega) (by omega) (by omega) (by omega) (by omega) (by omega) (by omega) eg (fun x y _ _ _ _ => hφ _) hf
  rw [madeL_map φ X Y Wn Hn l (by omega) hr.len] at this
  exact this.mono fun e w' h => h.res.op

end Go.Proofs.Ytlpbofhmpfilnaa
