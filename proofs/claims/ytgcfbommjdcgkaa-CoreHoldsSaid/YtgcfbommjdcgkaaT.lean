/-
  The numbers of the element types.
-/
import Derived.Test.YtgcfbommjdcgkaaAbC
namespace Go.Abs.T
def ty_8_bool : TypeId := 103
def ty_api_Ins : TypeId := 23
def ty_api_State : TypeId := 37
def ty_bautaref05_Mem : TypeId := 53
def ty_bool : TypeId := 4
def ty_int : TypeId := 3
def ty_mem_Mem : TypeId := 91
def ty_string : TypeId := 9
def ty_thumb_part : TypeId := 75
def ty_thumb_shape : TypeId := 78
def ty_uint16 : TypeId := 24
def ty_uint32 : TypeId := 34
end Go.Abs.T
