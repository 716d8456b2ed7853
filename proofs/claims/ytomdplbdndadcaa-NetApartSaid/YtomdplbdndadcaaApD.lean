import Derived.Test.YtomdplbdndadcaaApC
import Derived.Test.YtomdplbdndadcaaOpenNet
namespace Go.Proofs.Ytomdplbdndadcaa
open Go.RowKit

/-- NetApart's walk as its row hands it on -/
theorem apart_row (n : Int) (A : Option Addr) (c : Nat) (E : List EV) (rs : List Raw) (f o : Int) (C : Option Addr) (d : Nat) (r : List UInt8) (i : Int) (w : World) (hA : Es w A c E rs) (_ : (Lit.int .i64 f).wf = true) (hC : Bs w C d r) (_ : (Lit.int .i64 i).wf = true) :
    Calls Try.prog 4 #[.agg #[.int .i64 n, .slice A E.length c], .int .i64 f, .agg #[.int .i64 o, .slice C r.length d], .int .i64 i] w fun e w' => e = .returned (.bool true) ∧ Ext w w' :=
  apart_any n A c E rs f o C d r i w hA hC
end Go.Proofs.Ytomdplbdndadcaa
