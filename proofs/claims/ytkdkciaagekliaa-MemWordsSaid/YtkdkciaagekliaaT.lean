/-
  The numbers of the element types.
-/
import Derived.Test.YtkdkciaagekliaaAbs23
namespace Go.Abs.T
def ty_bautalaw05_Act : TypeId := 56
def ty_bautaref05_Mem : TypeId := 60
def ty_mem_Mem : TypeId := 98
def ty_uint16 : TypeId := 22
def ty_uint32 : TypeId := 42
end Go.Abs.T
