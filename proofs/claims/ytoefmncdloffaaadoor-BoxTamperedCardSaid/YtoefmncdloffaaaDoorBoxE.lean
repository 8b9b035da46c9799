
/-
  What the sanity of the laws of boxes asks of three examples, by evaluation of the plain functions.
-/
import Derived.Test.YtoefmncdloffaaaDoorBoxB
namespace Go.Proofs.YtoefmncdloffaaaDoor
def kk7 : List UInt8 := 7 :: List.replicate 15 0
def kk8 : List UInt8 := 8 :: List.replicate 15 0
def secretS : List UInt8 := [115, 101, 99, 114, 101, 116]
def cc7 : List UInt8 := applyS kk7 3 secretS
def tt7 : List UInt8 := tagS kk7 3 cc7
set_option maxRecDepth 100000 in
theorem box_facts : (cc7 != secretS && (tagS kk8 3 cc7 != tt7 && tagS kk7 3 [] != tt7)) = true := by decide +kernel
end Go.Proofs.YtoefmncdloffaaaDoor
